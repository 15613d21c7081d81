/-
  The law FnTrackWayWalk. No condition.
-/
import Derived.Test.YtkfgimhihknpoaaTl7
import Derived.Test.YtkfgimhihknpoaaWay4
import Derived.Deep.RegionWith
namespace Go.Proofs.Ytkfgimhihknpoaa
open Go.RowKit
set_option linter.unusedVariables false

def parB (s n i : Nat) : Bool := !(decide (i < n)) || ((cnt (s ^^^ 2 ^ i) n + cnt s n) % 2 == 1)
theorem parB_all : ∀ n, n < 9 → ∀ s, s < 256 → ∀ i, i < 8 → parB s n i = true := by decide +kernel
theorem par_step {n s t : Nat} (h8 : n ≤ 8) (hs : s < 2 ^ n) (h : StepT n s t) : (cnt t n + cnt s n) % 2 = 1 ∧ t < 2 ^ n := by
  obtain ⟨i, hi, hc, rfl⟩ := h
  have h := parB_all n (by omega) s (by have := pow8 h8; omega) i (by omega)
  unfold parB at h
  rw [dec_t hi] at h
  exact ⟨by simpa using h, flip_lt hs hi⟩
theorem par_reach {n k : Nat} (h8 : n ≤ 8) : ∀ {a b : Nat}, a < 2 ^ n → Reach n k a b → (cnt a n + k) % 2 = cnt b n % 2 := by
  induction k with
  | zero => intro a b ha h; cases h; rfl
  | succ k ih =>
    intro a b ha h
    obtain ⟨c, hc, hr⟩ := h
    have h1 := par_step h8 ha hc
    have h2 := ih h1.2 hr
    omega
theorem wk_reach {ss : List Bs} {n m : Nat} {f : Nat → Nat} (h : Wk n f m ss) : ∀ k, k < m → Reach n k (f 0) (f k) := by
  intro k
  induction k with
  | zero => intro _; rfl
  | succ k ih => intro hk; exact reach_snoc (ih (by omega)) (h.2.2.2.2.2 k hk)
theorem ps_bound {ss : List Bs} {n m : Nat} {f : Nat → Nat} (h : Wk n f m ss) : ∀ k, k < m → 2 * psK ss (k + 1) + (if (f k).testBit (n - 1) then 1 else 0) ≤ k + 1 := by
  obtain ⟨hl, hm, h1, h8, hT, hs⟩ := h
  have hget : ∀ k, k < m → tset (ss.getD k ByteArray.empty) = f k := fun k hk => by rw [(hT k hk).2, tset_T _ _ h1 h8 (hT k hk).1]
  have hsz : (ss.getD 0 ByteArray.empty).size = n := by rw [(hT 0 hm).2, T_size]
  intro k
  induction k with
  | zero =>
    intro _
    have e : psK ss (0 + 1) = 0 := by simp [psK]
    rw [e]
    split <;> omega
  | succ k ih =>
    intro hk
    have hi := ih (by omega)
    have e2 : psK ss (k + 1 + 1) = if k + 1 ≠ 0 ∧ psAt ss (k + 1) = true then psK ss (k + 1) + 1 else psK ss (k + 1) := rfl
    have hat : psAt ss (k + 1) = ((f k).testBit (n - 1) && !(f (k + 1)).testBit (n - 1)) := by
      unfold psAt
      rw [hsz, show k + 1 - 1 = k by omega, hget k (by omega), hget (k + 1) hk]
    rw [e2, hat]
    cases hb1 : (f k).testBit (n - 1) <;> cases hb2 : (f (k + 1)).testBit (n - 1) <;> simp [hb1] at hi ⊢ <;> omega

set_option maxHeartbeats 3200000 in
theorem law_TrackWayWalk (A : Option Addr) (c : Nat) (ys : List Int) (w : World) (hq : ArgBytes w A c ys) :
    Calls Try.prog 10 #[.slice A ys.length c] w fun e w' => e = .returned (.bool true) ∧ Below w.heap.size w w' := by
  obtain ⟨hr, hlc, hc⟩ := hq
  by_cases hbig : 1048576 < ys.length
  · have t0 := dec_t (show (1048576 : Int) < (ys.length : Int) by omega)
    go_enter Try.func10, Try.ntmps10
    go_wp2_with fail
    go_ret
    exact ⟨rfl, Below.refl _ _⟩
  have t0 := dec_f (show ¬ (1048576 : Int) < (ys.length : Int) by omega)
  have HD := Lib.hid (draw_passed A c ys.length w hlc hc hr)
  clear hr
  go_enter Try.func10, Try.ntmps10
  go_wp2_with fail
  refine HD.out.mono ?_
  rintro e w1 ⟨ss, g, d, rfl, hl10, hin, hld, hd, hat, hlt, hb1⟩
  have A1 := Lib.hid hat
  have B1 := Lib.hid hb1
  have L1 := Lib.hid hlt
  have HIN := Lib.hid (sizes_ok hin)
  clear hat hb1 hin hlt HD
  go_wp2_with fail
  refine (impl_passed g 0 d ss _ (by omega) hld hd HIN.out L1.out A1.out).mono ?_
  rintro e w2 ⟨rfl, hb2⟩
  have A2 := Lib.hid (A1.out.below hb2 L1.out)
  have L2 := Lib.hid (Nat.lt_of_lt_of_le L1.out hb2.size)
  have B2 := Lib.hid (below_to B1.out hb2 B1.out.size)
  clear hb2 A1 B1 L1
  go_wp2_with fail
  refine (spec_passed g 0 d ss _ (by omega) hld hd HIN.out L2.out A2.out).mono ?_
  rintro e w3 ⟨rfl, hb3⟩
  have A3 := Lib.hid (A2.out.below hb3 L2.out)
  have L3 := Lib.hid (Nat.lt_of_lt_of_le L2.out hb3.size)
  have B3 := Lib.hid (below_to B2.out hb3 B2.out.size)
  clear hb3 A2 B2 L2
  by_cases hv : walkB ss = true
  · obtain ⟨n, f, hwk⟩ := wk_of hv
    have hpv : passV ss = (psK ss ss.length : Int) := by unfold passV; rw [if_pos hv]
    rw [hpv]
    have hpos := hwk.2.1
    have h8 := hwk.2.2.2.1
    have h1 := hwk.2.2.1
    have hpb := ps_bound hwk (ss.length - 1) (by omega)
    rw [show ss.length - 1 + 1 = ss.length by omega] at hpb
    have hpb2 : 2 * psK ss ss.length ≤ ss.length := by omega
    have hre := wk_reach hwk (ss.length - 1) (by omega)
    have hf0 := hwk.2.2.2.2.1 0 hpos
    have hfl := hwk.2.2.2.2.1 (ss.length - 1) (by omega)
    have hc0 := A3.out 0 hpos
    have hcl := A3.out (ss.length - 1) (by omega)
    rw [hf0.2, Nat.zero_add] at hc0
    rw [hfl.2, Nat.zero_add] at hcl
    have hway := fun w => impl_way_yes (f 0) (f (ss.length - 1)) n w h1 h8 hf0.1 hfl.1
    have hparity : ∀ k, Reach n k (f 0) (f (ss.length - 1)) → (ss.length - 1 + k) % 2 = 0 := by
      intro k hk
      have e1 := par_reach h8 hf0.1 hk
      have e2 := par_reach h8 hf0.1 hre
      omega
    have HRE := Lib.hid hre
    have HPA := Lib.hid hparity
    have HWAY := Lib.hid hway
    generalize psK ss ss.length = P0 at *
    generalize T (f 0) n = X at *
    generalize T (f (ss.length - 1)) n = Y at *
    have t9 := dec_f (show ¬ (P0 : Int) < 0 by omega)
    have i1 : (0 : Int) < (ss.length : Int) := by omega
    have i2 : (0 : Int) ≤ (ss.length : Int) - 1 := by omega
    have i3 : (ss.length : Int) - 1 < (ss.length : Int) := by omega
    have i4 : ((ss.length : Int) - 1).toNat = ss.length - 1 := by omega
    have B3d : Hid (Below w.heap.size w w3.drew) := Lib.hid ⟨B3.out.os, B3.out.tape, B3.out.output, B3.out.size, B3.out.block⟩
    clear hwk hv hpv hpb hre hf0 hfl hway hparity
    go_wp2_with fail
    go_region_with (first | (go_at_call 12; refine (HWAY.out _).mono ?_; rintro e w4 ⟨v, rfl, hw4, hb4⟩; have V4 := Lib.hid hw4; have B4 := Lib.hid (below_to B3d.out hb4 B3d.out.size); clear hw4 hb4))
    all_goals
      rcases V4.out with ⟨k, hk, _, hkr, hmin⟩ | ⟨_, hno⟩
      · have hk1 := hmin _ HRE.out
        have hk2 := HPA.out k hkr
        subst hk
        have t1 := dec_t (show (0 : Int) ≤ (k : Int) by omega)
        have t2 := dec_t (show (k : Int) ≤ (ss.length : Int) - 1 by omega)
        have t3 : (((ss.length : Int) - 1 - (k : Int)) % 2 == 0) = true := by rw [beq_iff_eq]; omega
        have t4 := dec_t (show 2 * (P0 : Int) ≤ (ss.length : Int) by omega)
        have t5 := dec_t (show 2 * (P0 : Int) ≤ (ss.length : Int) - 1 + 1 by omega)
        have j1 : (0 : Int) ≤ (ss.length : Int) - 1 - (k : Int) := by omega
        clear hmin hkr V4
        go_wp2_with fail
        go_ret
        exact ⟨rfl, B4.out⟩
      · exact absurd HRE.out (hno _)
  · have hv' : walkB ss = false := by simpa using hv
    have hpv : passV ss = -1 := by unfold passV; rw [if_neg hv]
    rw [hpv]
    clear hv hv' hpv
    go_wp2_with fail
    go_ret
    exact ⟨rfl, B3.out⟩

end Go.Proofs.Ytkfgimhihknpoaa
