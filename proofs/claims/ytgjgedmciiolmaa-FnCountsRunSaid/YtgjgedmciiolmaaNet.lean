/-
  counterOf and CountsNet of the program and of the reference: both hand back the same list. No condition but lengths that fit and numbers that are ints.
-/
import Derived.Test.YtgjgedmciiolmaaInts
namespace Go.Proofs.Ytgjgedmciiolmaa
open Go.RowKit
set_option linter.unusedVariables false

def pidx (p : Int) : Int := if p < 0 then -1 - p else p
def pway (p : Int) : Int := if p < 0 then -1 else 1
theorem pidx_neg {p : Int} (h : p < 0) : pidx p = -1 - p := by simp [pidx, h]
theorem pidx_pos {p : Int} (h : ¬ p < 0) : pidx p = p := by simp [pidx, h]
theorem pway_neg {p : Int} (h : p < 0) : pway p = -1 := by simp [pway, h]
theorem pway_pos {p : Int} (h : ¬ p < 0) : pway p = 1 := by simp [pway, h]
theorem pway_b (p : Int) : -1 ≤ pway p ∧ pway p ≤ 1 := by unfold pway; split <;> omega
theorem pidx_nn (p : Int) : 0 ≤ pidx p := by unfold pidx; split <;> omega

set_option maxHeartbeats 400000 in
theorem counterOf_any (n p : Int) (w : World) (hp : -9223372036854775808 ≤ p) (hp' : p ≤ 9223372036854775807) :
    Calls Try.prog 49 #[.int .i64 n, .int .i64 p] w fun e w' => e = .returned (.tuple #[.int .i64 (pidx p), .int .i64 (pway p), .bool (decide (pidx p ≤ n))]) ∧ w = w' := by
  by_cases h : p < 0
  · rw [pidx_neg h, pway_neg h]
    go_enter Try.func49, Try.ntmps49
    go_wp2
    go_ret3
    exact ⟨rfl, rfl⟩
  · rw [pidx_pos h, pway_pos h]
    go_enter Try.func49, Try.ntmps49
    go_wp2
    go_ret3
    exact ⟨rfl, rfl⟩

/-- The net after the first k pulses. -/
def netL (n : Nat) (ps : List Int) : Nat → List Int
  | 0 => List.replicate (n + 1) 0
  | k + 1 => (netL n ps k).set (pidx (ps.getD k 0)).toNat ((netL n ps k).getD (pidx (ps.getD k 0)).toNat 0 + pway (ps.getD k 0))
theorem netL_length (n : Nat) (ps : List Int) (k : Nat) : (netL n ps k).length = n + 1 := by
  induction k with
  | zero => simp [netL]
  | succ k ih => simp [netL, ih]
theorem netL_bound (n : Nat) (ps : List Int) (k : Nat) : ∀ j : Nat, -(k : Int) ≤ (netL n ps k).getD j 0 ∧ (netL n ps k).getD j 0 ≤ k := by
  induction k with
  | zero =>
    intro j
    by_cases h : j < n + 1
    · simp [netL, List.getD, h]
    · simp [netL, List.getD, h]
  | succ k ih =>
    intro j
    have hw := pway_b (ps.getD k 0)
    have h1 := ih j
    have h2 := ih (pidx (ps.getD k 0)).toNat
    simp only [netL]
    generalize hI : (pidx (ps.getD k 0)).toNat = I at *
    generalize pway (ps.getD k 0) = s at *
    by_cases hj : I = j
    · subst hj
      by_cases hl : I < (netL n ps k).length
      · rw [show ((netL n ps k).set I ((netL n ps k).getD I 0 + s)).getD I 0 = (netL n ps k).getD I 0 + s by simp [List.getD, hl]]
        omega
      · rw [show ((netL n ps k).set I ((netL n ps k).getD I 0 + s)).getD I 0 = 0 by simp [List.getD, hl]]
        omega
    · rw [show ((netL n ps k).set I ((netL n ps k).getD I 0 + s)).getD j 0 = (netL n ps k).getD j 0 by simp [List.getD, hj]]
      omega
def okPs (n : Nat) (ps : List Int) : Bool := ps.all fun p => decide (pidx p ≤ n)
def netOk (n : Int) (ps : List Int) : Bool := inB 1 8 n && okPs n.toNat ps
def netV (n : Int) (ps : List Int) : List Int := if netOk n ps = true then netL n.toNat ps ps.length else []
theorem pidx_in (p : Int) (n : Nat) : decide (pidx p ≤ (n : Int)) = inB (-1 - (n : Int)) n p := by
  unfold pidx inB
  by_cases h : p < 0
  · rw [if_pos h, show decide (p ≤ (n : Int)) = true from dec_t (by omega), Bool.and_true, decide_eq_decide]; omega
  · rw [if_neg h, show decide (-1 - (n : Int) ≤ p) = true from dec_t (by omega), Bool.true_and]

theorem getD_mem {zs : List Int} {k : Nat} (h : k < zs.length) : zs.getD k 0 ∈ zs := by
  simp [List.getD, h]

set_option maxHeartbeats 800000 in
theorem impl_net (n : Int) (b off c : Nat) (ps : List Int) (w : World) (hn : ps.length ≤ 1048576) (hz : ∀ z ∈ ps, -9223372036854775808 ≤ z ∧ z ≤ 9223372036854775807) (hc : AtInts w b off ps) (hb : b < w.heap.size) :
    Calls Try.prog 28 #[.int .i64 n, .slice (some ⟨b, off, none⟩) ps.length c] w (NewIntsB w (netV n ps) (netOk n ps)) := by
  have HC := Lib.hid hc
  have HZ := Lib.hid hz
  clear hc hz
  by_cases h1 : 1 ≤ n
  · have t1 := dec_f (show ¬ n < 1 by omega)
    by_cases h2 : n ≤ 8
    · have t2 := dec_f (show ¬ 8 < n by omega)
      obtain ⟨M, rfl⟩ := Int.eq_ofNat_of_zero_le (show 0 ≤ n by omega)
      obtain ⟨ok, hok⟩ : ∃ ok, ok = netOk M ps := ⟨_, rfl⟩
      obtain ⟨rs, hrs⟩ : ∃ rs, rs = netV M ps := ⟨_, rfl⟩
      rw [← hok, ← hrs]
      have hok' : ok = okPs M ps := by rw [hok]; simp [netOk, inB, h1, h2]
      have hrs' : rs = if ok = true then netL M ps ps.length else [] := by rw [hrs, hok]; simp [netV]
      have HK := Lib.hid hok'
      have HR := Lib.hid hrs'
      clear hok hrs hok' hrs'
      have b1 : M ≤ 8 := by omega
      go_enter Try.func28, Try.ntmps28
      go_wp2_with (at_make; refine wpList_mk1 slInt rfl rfl (.tmp 20) (.tmp 20) rfl w w.heap.size (M + 1) rfl rfl (by omega) (by unfold maxLen; omega) (Nat.le_refl _) ?_)
      intro w1 hown1 hg1
      have HO1 : Hid (OwnM w1 w.heap.size w.heap.size (M + 1) (M + 1) (netL M ps 0)) := by
        unfold OwnM netL
        rw [List.map_replicate]
        exact hown1
      have HB1 : Hid (Below w.heap.size w w1) := (Below.refl _ _).grown hg1 (Nat.le_refl _) (by simp)
      clear hown1 hg1
      go_wp2_with fail
      go_loopw [24] (fun q wr => ∃ k : Nat, k ≤ ps.length ∧ q = .int .i64 k ∧ OwnM wr w.heap.size w.heap.size (M + 1) (M + 1) (netL M ps k) ∧ Below w.heap.size w wr ∧ (ps.take k).all (fun p => decide (pidx p ≤ M)) = true) (fun q _ => ps.length - (intOf q).toNat)
      case atStart => exact ⟨0, Nat.zero_le _, rfl, HO1.out, HB1.out, rfl⟩
      case round =>
        clear HO1 HB1
        obtain ⟨k, hk, rfl, hown, hbel, hall⟩ := hrel
        have HALL := Lib.hid hall
        clear hall
        by_cases hlt : k < ps.length
        · have hcell := (hbel.cell (p := ⟨b, off + k, none⟩) hb).trans (HC.out k hlt)
          have hzk := HZ.out _ (getD_mem hlt)
          have hnl : netL M ps (k + 1) = (netL M ps k).set (pidx (ps.getD k 0)).toNat ((netL M ps k).getD (pidx (ps.getD k 0)).toNat 0 + pway (ps.getD k 0)) := rfl
          have hpre : ∀ h : decide (pidx (ps.getD k 0) ≤ (M : Int)) = true, (ps.take (k + 1)).all (fun p => decide (pidx p ≤ M)) = true := fun h => by
            rw [List.take_succ_eq_append_getElem hlt, List.all_append, HALL.out]
            simp [List.getD, hlt] at h
            simp [h]
          have hno : decide (pidx (ps.getD k 0) ≤ (M : Int)) = false → okPs M ps = false := fun h => by
            unfold okPs
            rw [List.all_eq_false]
            exact ⟨ps[k], List.getElem_mem hlt, by simp [List.getD, hlt] at h; simp; omega⟩
          obtain ⟨p, hp⟩ : ∃ p, ps.getD k 0 = p := ⟨_, rfl⟩
          rw [hp] at hcell hzk hnl hpre hno
          have hbd := netL_bound M ps k (pidx p).toNat
          have hlen := netL_length M ps k
          obtain ⟨I, hI⟩ := Int.eq_ofNat_of_zero_le (pidx_nn p)
          have hway := pway_b p
          obtain ⟨s, hs⟩ : ∃ s, pway p = s := ⟨_, rfl⟩
          have hct := fun w => counterOf_any M p w hzk.1 hzk.2
          simp only [hI, hs, Int.toNat_natCast] at hnl hbd hway hct hpre hno
          obtain ⟨x, hx⟩ : ∃ x, (netL M ps k).getD I 0 = x := ⟨_, rfl⟩
          rw [hx] at hnl hbd
          have HCT := Lib.hid hct
          have HNL := Lib.hid hnl
          have HPRE := Lib.hid hpre
          have HNO := Lib.hid hno
          have x1 := hbd.1
          have x2 := hbd.2
          have s1 := hway.1
          have s2 := hway.2
          by_cases hIM : I ≤ M
          · have t3 := dec_t (show (I : Int) ≤ (M : Int) by omega)
            have t3' := dec_t hIM
            have hc2 : wr.cell? ⟨w.heap.size, I, none⟩ = some (.int .i64 x) := by
              rw [OwnV.cell hown I (by omega), ← hx]
              simp [List.getD, show I < (netL M ps k).length by omega]
            have hf2 := OwnV.frozen hown I
            have HST : Hid (OwnM (wr.setCell ⟨w.heap.size, I, none⟩ (.int .i64 (x + s))) w.heap.size w.heap.size (M + 1) (M + 1) (netL M ps (k + 1))) := by
              have := OwnV.store hown I (.int .i64 (x + s))
              unfold OwnM
              rw [hnl, List.map_set]
              exact this
            have HBS : Hid (Below w.heap.size w (wr.setCell ⟨w.heap.size, I, none⟩ (.int .i64 (x + s)))) := hbel.setCell (p := ⟨w.heap.size, I, none⟩) (Nat.le_refl _) _
            clear hown hbel hnl hx hI hs hct hpre hno hp hlen hbd hway
            go_wp2_with (go_at_call 49; refine (HCT.out _).mono ?_; rintro e w' ⟨rfl, rfl⟩)
            go_roundw
            case rel => exact ⟨k + 1, by omega, by go_num, HST.out, HBS.out, HPRE.out t3⟩
            case measure => simp [intOf]; omega
          · have t3 := dec_f (show ¬ (I : Int) ≤ (M : Int) by omega)
            have t3' := dec_f hIM
            clear hown hnl hx hI hs hct hpre hno hp hlen hbd hway
            have he := own_empty wr w.heap.size hbel.size
            have HE := Lib.hid he
            have HBE := Lib.hid (below_new' hbel (.cells #[] 3))
            clear he
            go_wp2_with (go_at_call 49; refine (HCT.out _).mono ?_; rintro e w' ⟨rfl, rfl⟩)
            go_ret2
            have hkf : ok = false := by rw [HK.out]; exact HNO.out t3
            have hr0 : rs = [] := by rw [HR.out, hkf]; rfl
            rw [hkf, hr0]
            exact ⟨_, _, rfl, HE.out, HBE.out⟩
        · have hk' : k = ps.length := by omega
          have HKK := Lib.hid hk'
          clear hk'
          go_wp2_with fail
          go_ret2
          have hkt : ok = true := by
            rw [HK.out]; unfold okPs
            have := HALL.out
            rw [List.take_of_length_le (by omega)] at this
            exact this
          have hr0 : rs = netL M ps k := by rw [HR.out, if_pos hkt, HKK.out]
          rw [hkt, hr0]
          exact ⟨_, _, ret_slb hown.len, hown.own, hbel⟩
    · have t2 := dec_t (show 8 < n by omega)
      have hok : netOk n ps = false := by simp [netOk, inB]; omega
      have hv : netV n ps = [] := by simp [netV, hok]
      rw [hok, hv]; clear hok hv
      go_enter Try.func28, Try.ntmps28
      go_wp2
      go_ret2
      exact ⟨_, _, rfl, own_empty w _ (Nat.le_refl _), below_new w _⟩
  · have t1 := dec_t (show n < 1 by omega)
    have hok : netOk n ps = false := by simp [netOk, inB]; omega
    have hv : netV n ps = [] := by simp [netV, hok]
    rw [hok, hv]; clear hok hv
    go_enter Try.func28, Try.ntmps28
    go_wp2
    go_ret2
    exact ⟨_, _, rfl, own_empty w _ (Nat.le_refl _), below_new w _⟩


end Go.Proofs.Ytgjgedmciiolmaa
