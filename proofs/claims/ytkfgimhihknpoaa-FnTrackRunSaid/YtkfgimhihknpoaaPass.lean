/-
  TrackPassed of the reference and of the program. No condition but lengths that fit.
-/
import Derived.Test.YtkfgimhihknpoaaWalk3
namespace Go.Proofs.Ytkfgimhihknpoaa
open Go.RowKit
set_option linter.unusedVariables false

theorem tr_get {S : ByteArray} (h : trB S = true) (k : Nat) (hk : k < S.size) : S[k] = if (tset S).testBit k then 49 else 48 := by
  obtain ⟨s, n, h1, h2, hs, rfl⟩ := trB_T h
  rw [T_get, tset_T s n h1 h2 hs]
theorem wk_size {ss : List Bs} {m : Nat} (h : wkK ss m = true) : ∀ k, k < m → trB (ss.getD k ByteArray.empty) = true ∧ (ss.getD k ByteArray.empty).size = (ss.getD 0 ByteArray.empty).size := by
  intro k
  induction k with
  | zero => intro hk; exact ⟨wkK_tr (wkK_le (show 0 + 1 ≤ m by omega) h), rfl⟩
  | succ k ih =>
    intro hk
    have hw := wkK_le (show k + 1 + 1 ≤ m by omega) h
    have ht := wkK_tr hw
    refine ⟨ht, ?_⟩
    have ih := (ih (by omega)).2
    have hat := wkAt_is ht (by omega)
    have : wkAt ss (k + 1) = true := by
      simp only [wkK, Bool.and_eq_true] at hw
      exact hw.2
    rw [hat, show k + 1 - 1 = k by omega] at this
    unfold isB nearB at this
    rw [Bool.and_eq_true, beq_iff_eq] at this
    exact this.1.symm.trans ih
def psAt (ss : List Bs) (k : Nat) : Bool :=
  (tset (ss.getD (k - 1) ByteArray.empty)).testBit ((ss.getD 0 ByteArray.empty).size - 1) && !(tset (ss.getD k ByteArray.empty)).testBit ((ss.getD 0 ByteArray.empty).size - 1)
/-- How often the last circuit of the first k texts was left. -/
def psK (ss : List Bs) : Nat → Nat
  | 0 => 0
  | k + 1 => if k ≠ 0 ∧ psAt ss k = true then psK ss k + 1 else psK ss k
theorem psK_le (ss : List Bs) (k : Nat) : psK ss k ≤ k := by
  induction k with
  | zero => exact Nat.le_refl _
  | succ k ih => simp only [psK]; split <;> omega
def passV (ss : List Bs) : Int := if walkB ss = true then (psK ss ss.length : Int) else -1
theorem walkB_parts {ss : List Bs} (h : walkB ss = true) : 0 < ss.length ∧ wkK ss ss.length = true := by
  unfold walkB at h
  rw [Bool.and_eq_true, decide_eq_true_eq] at h
  exact h

set_option maxHeartbeats 3200000 in
theorem spec_passed (b off c : Nat) (ss : List Bs) (w : World) (hn : ss.length ≤ 1099511627776) (hcc : ss.length ≤ c) (hc2 : c ≤ 9223372036854775807) (hsz : ∀ s ∈ ss, s.size ≤ 9223372036854775807) (hb : b < w.heap.size) (ha : AtStrs w b off ss) :
    Calls Try.prog 34 #[.slice (some ⟨b, off, none⟩) ss.length c] w fun e w' => e = .returned (.int .i64 (passV ss)) ∧ Below w.heap.size w w' := by
  have hcall : ∀ r, walkB ss = r → Calls Try.prog 27 #[.slice (some ⟨b, off, none⟩) ss.length c] w fun e w' => e = .returned (.bool r) ∧ Below w.heap.size w w' := by
    intro r hr
    rw [← hr]
    exact (spec_walk b off c ss w hn hsz ha).mono fun _ _ h => ⟨h.1, h.2.below _⟩
  by_cases hw : walkB ss = true
  · have hcl := hcall true hw
    obtain ⟨hp, hwk⟩ := walkB_parts hw
    have HWK := Lib.hid hwk
    have HCL := Lib.hid hcl
    have HA := Lib.hid ha
    have hpv : passV ss = (psK ss ss.length : Int) := by unfold passV; rw [if_pos hw]
    rw [hpv]
    clear hpv hw hwk hcl hcall ha hsz
    obtain ⟨y0, hy0⟩ : ∃ y, ss.getD 0 ByteArray.empty = y := ⟨_, rfl⟩
    have hz0 : 1 ≤ y0.size ∧ y0.size ≤ 8 := by
      have := (wk_size HWK.out 0 hp).1
      rw [hy0] at this
      exact trB_len this
    obtain ⟨z1, z2⟩ := hz0
    have HY0 := Lib.hid hy0
    clear hy0
    have i0 : (0 : Int) < (ss.length : Int) := by omega
    go_enter Try.func34, Try.ntmps34
    go_wp2_with fail
    refine HCL.out.mono ?_
    rintro e w1 ⟨rfl, hb1⟩
    have AT1 := Lib.hid (HA.out.below hb1 hb)
    have B1 := Lib.hid hb1
    have hc0 := AT1.out 0 hp
    rw [HY0.out, Nat.add_zero] at hc0
    clear hb1
    go_wp2_with fail
    go_loop [3, 5] (fun q i => ∃ k : Nat, 1 ≤ k ∧ k ≤ ss.length ∧ i = .int .i64 k ∧ q = .int .i64 (psK ss k)) (fun _ i => ss.length - (intOf i).toNat)
    case atStart => exact ⟨1, by omega, by omega, rfl, rfl⟩
    case round =>
      obtain ⟨k, hk1, hk, rfl, rfl⟩ := hrel
      have hle := psK_le ss k
      by_cases hlt : k < ss.length
      · have hcx := AT1.out k hlt
        have hcy := AT1.out (k - 1) (by omega)
        have sx := wk_size HWK.out k hlt
        have sy := wk_size HWK.out (k - 1) (by omega)
        rw [HY0.out] at sx sy
        obtain ⟨x, hx⟩ : ∃ x, ss.getD k ByteArray.empty = x := ⟨_, rfl⟩
        obtain ⟨y, hy⟩ : ∃ y, ss.getD (k - 1) ByteArray.empty = y := ⟨_, rfl⟩
        have hps : psAt ss k = ((tset y).testBit (y0.size - 1) && !(tset x).testBit (y0.size - 1)) := by
          unfold psAt; rw [hx, hy, HY0.out]
        rw [hx] at hcx sx
        rw [hy] at hcy sy
        have lx : y0.size - 1 < x.size := by omega
        have ly : y0.size - 1 < y.size := by omega
        have gx := tr_get sx.1 (y0.size - 1) lx
        have gy := tr_get sy.1 (y0.size - 1) ly
        have lx' : (y0.size : Int) - 1 < (x.size : Int) := by omega
        have ly' : (y0.size : Int) - 1 < (y.size : Int) := by omega
        have l0 : (0 : Int) ≤ (y0.size : Int) - 1 := by omega
        have i1 : (k : Int) < (ss.length : Int) := by omega
        have i2 : (0 : Int) ≤ (k : Int) - 1 := by omega
        have i3 : (k : Int) - 1 < (ss.length : Int) := by omega
        by_cases hby : (tset y).testBit (y0.size - 1) = true
        · rw [if_pos hby] at gy
          by_cases hbx : (tset x).testBit (y0.size - 1) = true
          · rw [if_pos hbx] at gx
            have hr : psK ss (k + 1) = psK ss k := by simp only [psK]; rw [if_neg (by rw [hps, hbx]; simp)]
            have HR := Lib.hid hr
            clear hr hps hby hbx hx hy sx sy
            go_wp2_with fail
            go_round
            case rel => exact ⟨k + 1, by omega, by omega, by go_num, by rw [HR.out]⟩
            case measure => simp [intOf]; omega
          · rw [if_neg hbx] at gx
            have hr : psK ss (k + 1) = psK ss k + 1 := by simp only [psK]; rw [if_pos ⟨by omega, by rw [hps, hby]; simpa using hbx⟩]
            have HR := Lib.hid hr
            clear hr hps hby hbx hx hy sx sy
            go_wp2_with fail
            go_round
            case rel => exact ⟨k + 1, by omega, by omega, by go_num, by rw [HR.out]; go_num⟩
            case measure => simp [intOf]; omega
        · rw [if_neg hby] at gy
          have hr : psK ss (k + 1) = psK ss k := by simp only [psK]; rw [if_neg (by rw [hps]; simp [hby])]
          have HR := Lib.hid hr
          clear hr hps hby hx hy sx sy gx
          go_wp2_with fail
          go_round
          case rel => exact ⟨k + 1, by omega, by omega, by go_num, by rw [HR.out]⟩
          case measure => simp [intOf]; omega
      · have hkn : k = ss.length := by omega
        have HKN := Lib.hid hkn
        clear hkn
        go_wp2_with fail
        go_ret
        exact ⟨ret_int (by rw [HKN.out]), B1.out⟩
  · have hw' : walkB ss = false := by simpa using hw
    have hpv : passV ss = -1 := by unfold passV; rw [if_neg hw]
    rw [hpv]
    have HCL := Lib.hid (hcall false hw')
    clear hcall hw hw' hpv ha hsz
    go_enter Try.func34, Try.ntmps34
    go_wp2_with fail
    refine HCL.out.mono ?_
    rintro e w1 ⟨rfl, hb1⟩
    have B1 := Lib.hid hb1
    clear hb1
    go_wp2_with fail
    go_ret
    exact ⟨rfl, B1.out⟩

set_option maxHeartbeats 3200000 in
theorem impl_passed (b off c : Nat) (ss : List Bs) (w : World) (hn : ss.length ≤ 1099511627776) (hcc : ss.length ≤ c) (hc2 : c ≤ 9223372036854775807) (hsz : ∀ s ∈ ss, s.size ≤ 9223372036854775807) (hb : b < w.heap.size) (ha : AtStrs w b off ss) :
    Calls Try.prog 32 #[.slice (some ⟨b, off, none⟩) ss.length c] w fun e w' => e = .returned (.int .i64 (passV ss)) ∧ Below w.heap.size w w' := by
  have hcall : ∀ r, walkB ss = r → Calls Try.prog 26 #[.slice (some ⟨b, off, none⟩) ss.length c] w fun e w' => e = .returned (.bool r) ∧ Below w.heap.size w w' := by
    intro r hr
    rw [← hr]
    exact impl_walk b off c ss w hn hcc hc2 hsz hb ha
  by_cases hw : walkB ss = true
  · have hcl := hcall true hw
    obtain ⟨hp, hwk⟩ := walkB_parts hw
    have HWK := Lib.hid hwk
    have HCL := Lib.hid hcl
    have HA := Lib.hid ha
    have hpv : passV ss = (psK ss ss.length : Int) := by unfold passV; rw [if_pos hw]
    rw [hpv]
    clear hpv hw hwk hcl hcall ha hsz
    obtain ⟨y0, hy0⟩ : ∃ y, ss.getD 0 ByteArray.empty = y := ⟨_, rfl⟩
    have hz0 : 1 ≤ y0.size ∧ y0.size ≤ 8 := by
      have := (wk_size HWK.out 0 hp).1
      rw [hy0] at this
      exact trB_len this
    obtain ⟨z1, z2⟩ := hz0
    have HY0 := Lib.hid hy0
    clear hy0
    have i0 : (0 : Int) < (ss.length : Int) := by omega
    go_enter Try.func32, Try.ntmps32
    go_wp2_with fail
    refine HCL.out.mono ?_
    rintro e w1 ⟨rfl, hb1⟩
    have AT1 := Lib.hid (HA.out.below hb1 hb)
    have B1 := Lib.hid hb1
    have hc0 := AT1.out 0 hp
    rw [HY0.out, Nat.add_zero] at hc0
    clear hb1
    go_wp2_with fail
    go_loop [4, 5] (fun q i => ∃ k : Nat, 1 ≤ k ∧ k ≤ ss.length ∧ i = .int .i64 k ∧ q = .int .i64 (psK ss k)) (fun _ i => ss.length - (intOf i).toNat)
    case atStart => exact ⟨1, by omega, by omega, rfl, rfl⟩
    case round =>
      obtain ⟨k, hk1, hk, rfl, rfl⟩ := hrel
      have hle := psK_le ss k
      by_cases hlt : k < ss.length
      · have hcx := AT1.out k hlt
        have hcy := AT1.out (k - 1) (by omega)
        have sx := wk_size HWK.out k hlt
        have sy := wk_size HWK.out (k - 1) (by omega)
        rw [HY0.out] at sx sy
        obtain ⟨x, hx⟩ : ∃ x, ss.getD k ByteArray.empty = x := ⟨_, rfl⟩
        obtain ⟨y, hy⟩ : ∃ y, ss.getD (k - 1) ByteArray.empty = y := ⟨_, rfl⟩
        have hps : psAt ss k = ((tset y).testBit (y0.size - 1) && !(tset x).testBit (y0.size - 1)) := by
          unfold psAt; rw [hx, hy, HY0.out]
        rw [hx] at hcx sx
        rw [hy] at hcy sy
        have lx : y0.size - 1 < x.size := by omega
        have ly : y0.size - 1 < y.size := by omega
        have gx := tr_get sx.1 (y0.size - 1) lx
        have gy := tr_get sy.1 (y0.size - 1) ly
        have lx' : (y0.size : Int) - 1 < (x.size : Int) := by omega
        have ly' : (y0.size : Int) - 1 < (y.size : Int) := by omega
        have l0 : (0 : Int) ≤ (y0.size : Int) - 1 := by omega
        have i1 : (k : Int) < (ss.length : Int) := by omega
        have i2 : (0 : Int) ≤ (k : Int) - 1 := by omega
        have i3 : (k : Int) - 1 < (ss.length : Int) := by omega
        by_cases hby : (tset y).testBit (y0.size - 1) = true
        · rw [if_pos hby] at gy
          by_cases hbx : (tset x).testBit (y0.size - 1) = true
          · rw [if_pos hbx] at gx
            have hr : psK ss (k + 1) = psK ss k := by simp only [psK]; rw [if_neg (by rw [hps, hbx]; simp)]
            have HR := Lib.hid hr
            clear hr hps hby hbx hx hy sx sy
            go_wp2_with fail
            go_round
            case rel => exact ⟨k + 1, by omega, by omega, by go_num, by rw [HR.out]⟩
            case measure => simp [intOf]; omega
          · rw [if_neg hbx] at gx
            have hr : psK ss (k + 1) = psK ss k + 1 := by simp only [psK]; rw [if_pos ⟨by omega, by rw [hps, hby]; simpa using hbx⟩]
            have HR := Lib.hid hr
            clear hr hps hby hbx hx hy sx sy
            go_wp2_with fail
            go_round
            case rel => exact ⟨k + 1, by omega, by omega, by go_num, by rw [HR.out]; go_num⟩
            case measure => simp [intOf]; omega
        · rw [if_neg hby] at gy
          have hr : psK ss (k + 1) = psK ss k := by simp only [psK]; rw [if_neg (by rw [hps]; simp [hby])]
          have HR := Lib.hid hr
          clear hr hps hby hx hy sx sy gx
          go_wp2_with fail
          go_round
          case rel => exact ⟨k + 1, by omega, by omega, by go_num, by rw [HR.out]⟩
          case measure => simp [intOf]; omega
      · have hkn : k = ss.length := by omega
        have HKN := Lib.hid hkn
        clear hkn
        go_wp2_with fail
        go_ret
        exact ⟨ret_int (by rw [HKN.out]), B1.out⟩
  · have hw' : walkB ss = false := by simpa using hw
    have hpv : passV ss = -1 := by unfold passV; rw [if_neg hw]
    rw [hpv]
    have HCL := Lib.hid (hcall false hw')
    clear hcall hw hw' hpv ha hsz
    go_enter Try.func32, Try.ntmps32
    go_wp2_with fail
    refine HCL.out.mono ?_
    rintro e w1 ⟨rfl, hb1⟩
    have B1 := Lib.hid hb1
    clear hb1
    go_wp2_with fail
    go_ret
    exact ⟨rfl, B1.out⟩

end Go.Proofs.Ytkfgimhihknpoaa
