/-
  TrackNext of the program and of the reference. No condition but strings that have a length.
-/
import Derived.Test.YtkfgimhihknpoaaTk4
namespace Go.Proofs.Ytkfgimhihknpoaa
open Go.RowKit
set_option linter.unusedVariables false

/-- The circuits among the first k that can change. -/
def nx (S : ByteArray) : Nat → List Int
  | 0 => []
  | k + 1 => if stepOk S k = true then nx S k ++ [(k : Int)] else nx S k
theorem nx_length (S : ByteArray) (k : Nat) : (nx S k).length ≤ k := by
  induction k with
  | zero => simp [nx]
  | succ k ih =>
    simp only [nx]
    split
    · simp; omega
    · omega
theorem nx_no {S : ByteArray} (h : trB S = false) (k : Nat) : nx S k = [] := by
  induction k with
  | zero => rfl
  | succ k ih => simp only [nx]; rw [if_neg (by unfold stepOk; rw [h]; simp), ih]

set_option maxHeartbeats 800000 in
theorem spec_next (S : ByteArray) (w : World) (hS : S.size ≤ 1048576) :
    Calls Try.prog 15 #[.string S] w (NewInts w (nx S S.size)) := by
  have HO := Lib.hid (ownM_empty w w.heap.size (Nat.le_refl _))
  have HB := Lib.hid (below_new w (.cells #[] 3))
  go_enter Try.func15, Try.ntmps15
  go_wp2_with fail
  go_loopw [3, 4] (fun v q wr => ∃ k g d m : Nat, k ≤ S.size ∧ q = .int .i64 k ∧ v = .slice (some ⟨g, 0, none⟩) m d ∧ OwnM wr w.heap.size g d m (nx S k) ∧ Below w.heap.size w wr) (fun _ q _ => S.size - (intOf q).toNat)
  case atStart => exact ⟨0, _, _, 0, by omega, rfl, rfl, HO.out, HB.out⟩
  case round =>
    clear HO HB
    obtain ⟨k, g, d, m, hk, rfl, rfl, hown, hbel⟩ := hrel
    have hm : m ≤ 1048576 := by
      have := hown.len
      have := nx_length S k
      omega
    by_cases hlt : k < S.size
    · have hstep := fun w => spec_step S k w (by omega)
      by_cases hc : stepOk S k = true
      · have e : nx S (k + 1) = nx S k ++ [(k : Int)] := by simp only [nx]; rw [if_pos hc]
        have HE := Lib.hid e
        rw [hc] at hstep
        have HST := Lib.hid hstep
        have HOW := Lib.hid hown
        have HBE := Lib.hid hbel
        clear e hstep hc hown hbel
        go_wp2_with (first | (go_at_call 21; refine (HST.out _).mono ?_; rintro e w1 ⟨rfl, hq⟩; have O1 : Hid (OwnM w1 w.heap.size g d m (nx S k)) := OwnV.below HOW.out (hq.below _) HOW.out.lt; have B1 := Lib.hid (below_to HBE.out (hq.below _) (Nat.le_refl _)); clear hq) | (at_builtin; refine wpList_app1i rfl (.tmp 21) (.tmp 23) rfl _ rfl O1.out rfl (by omega) ?_; intro g' c' w' hown' hg' hat'))
        rw [← HE.out] at hown'
        have R := hown'
        have RB := below_app B1.out hg' O1.out.le
        clear hown' hg' hat'
        go_wp2
        go_roundw
        case rel => exact ⟨k + 1, g', c', m + 1, by omega, by go_num, rfl, R, RB⟩
        case measure => simp [intOf]; omega
      · have hc' : stepOk S k = false := by simpa using hc
        have e : nx S (k + 1) = nx S k := by simp only [nx]; rw [if_neg hc]
        rw [← e] at hown
        rw [hc'] at hstep
        have HST := Lib.hid hstep
        have HOW := Lib.hid hown
        have HBE := Lib.hid hbel
        clear e hc hc' hown hbel hstep
        go_wp2_with (go_at_call 21; refine (HST.out _).mono ?_; rintro e w1 ⟨rfl, hq⟩; have O1 : Hid (OwnM w1 w.heap.size g d m (nx S (k + 1))) := OwnV.below HOW.out (hq.below _) HOW.out.lt; have B1 := Lib.hid (below_to HBE.out (hq.below _) (Nat.le_refl _)); clear hq)
        go_roundw
        case rel => exact ⟨k + 1, g, d, m, by omega, by go_num, rfl, O1.out, B1.out⟩
        case measure => simp [intOf]; omega
    · have hk' : k = S.size := by omega
      have HK := Lib.hid hk'
      clear hk'
      go_wp2_with fail
      go_ret
      have h1 := hown.len
      have h2 := hown.own
      rw [HK.out] at h1 h2
      exact ⟨g, d, ret_sl h1, h2, hbel⟩

set_option maxHeartbeats 1600000 in
theorem impl_next (S : ByteArray) (w : World) (hS : S.size ≤ 9223372036854775807) :
    Calls Try.prog 14 #[.string S] w (NewInts w (nx S S.size)) := by
  have HO := Lib.hid (ownM_empty w w.heap.size (Nat.le_refl _))
  have HB := Lib.hid (below_new w (.cells #[] 3))
  by_cases hv : trB S = true
  · obtain ⟨s, n, h1, h2, hs, rfl⟩ := trB_T hv
    have hto := fun w => trackOf_yes s n w h1 h2 hs
    have hok := fun i hi => stepOk_T s n i h1 h2 hs hi
    have hz := T_size s n
    have hp8 := pow8 h2
    have hs16 : s < 65536 := by omega
    generalize T s n = S at *
    rw [hz]
    have HTO := Lib.hid hto
    have HOK := Lib.hid hok
    clear hto hok hz hp8 hs hv
    go_enter Try.func14, Try.ntmps14
    go_wp2_with (go_at_call 38; refine (HTO.out _).mono ?_; rintro e w1 ⟨rfl, hb1⟩; have B1 := Lib.hid (below_new' (below_to HB.out hb1 HB.out.size) (.cells #[.int .u16 s, .int .i64 n] 54)); have K1 := Lib.hid (Blk.new w1 54 #[.int .u16 s, .int .i64 n]); have O1 : Hid (OwnM (w1.alloc (.cells #[.int .u16 s, .int .i64 n] 54)) w.heap.size w.heap.size 0 0 []) := OwnV.alloc (OwnV.below HO.out hb1 HO.out.lt) _; have L1 : Hid (w.heap.size < w1.heap.size) := (by have := hb1.size; simp at this; exact this); clear hb1)
    go_loopw [3, 18] (fun v q wr => ∃ k g d m : Nat, k ≤ n ∧ q = .int .i64 k ∧ v = .slice (some ⟨g, 0, none⟩) m d ∧ OwnM wr w.heap.size g d m (nx S k) ∧ Below w.heap.size w wr ∧ Blk wr w1.heap.size 54 #[.int .u16 s, .int .i64 n] ∧ g ≠ w1.heap.size) (fun _ q _ => n - (intOf q).toNat)
    case atStart => exact ⟨0, w.heap.size, 0, 0, by omega, rfl, rfl, O1.out, B1.out, K1.out, by have := L1.out; omega⟩
    case round =>
      clear HO HB O1 B1 K1 L1
      obtain ⟨k, g, d, m, hk, rfl, rfl, hown, hbel, hblk, hne⟩ := hrel
      have hm : m ≤ 1048576 := by
        have := hown.len
        have := nx_length S k
        omega
      have c0 := hblk.cell 0
      have c1 := hblk.cell 1
      have HOW := Lib.hid hown
      have HBE := Lib.hid hbel
      have HBK := Lib.hid hblk
      have HNE := Lib.hid hne
      clear hown hbel hblk hne
      by_cases hlt : k < n
      · have hcan := fun w => can_any s n k w hs16 h2 hlt
        have hsk := HOK.out k hlt
        by_cases hc : canB s n k = true
        · have e : nx S (k + 1) = nx S k ++ [(k : Int)] := by simp only [nx]; rw [if_pos (by rw [hsk]; exact hc)]
          have HE := Lib.hid e
          rw [hc] at hcan
          have HC := Lib.hid hcan
          clear e hcan hc hsk
          go_wp2_with (first | (go_at_call 39; refine (HC.out _).mono ?_; rintro e w2 ⟨rfl, hb2⟩; have O2 : Hid (OwnM w2 w.heap.size g d m (nx S k)) := OwnV.below HOW.out hb2 HOW.out.lt; have B2 := Lib.hid (below_to HBE.out hb2 HBE.out.size); have K2 := Lib.hid (HBK.out.below hb2 HBK.out.lt); clear hb2) | (at_builtin; refine wpList_app1i rfl (.tmp 24) (.tmp 26) rfl _ rfl O2.out rfl (by omega) ?_; intro g' c' w' hown' hg' hat'))
          rw [← HE.out] at hown'
          have R := hown'
          have RB := below_app B2.out hg' O2.out.le
          have RK := K2.out.grown hg' (by have := HNE.out; intro h; injection h; omega)
          have RN : g' ≠ w1.heap.size := by
            have := K2.out.lt
            have := HNE.out
            rcases hat' with h | h <;> omega
          have HRK := Lib.hid RK
          have HRN := Lib.hid RN
          clear hown' hg' hat' RK RN
          go_wp2
          go_roundw
          case rel => exact ⟨k + 1, g', c', m + 1, by omega, by go_num, rfl, R, RB, HRK.out, HRN.out⟩
          case measure => simp [intOf]; omega
        · have hc' : canB s n k = false := by simpa using hc
          have e : nx S (k + 1) = nx S k := by simp only [nx]; rw [if_neg (by rw [hsk, hc']; simp)]
          have HE := Lib.hid e
          rw [hc'] at hcan
          have HC := Lib.hid hcan
          clear e hcan hc hc' hsk
          go_wp2_with (go_at_call 39; refine (HC.out _).mono ?_; rintro e w2 ⟨rfl, hb2⟩; have O2 : Hid (OwnM w2 w.heap.size g d m (nx S k)) := OwnV.below HOW.out hb2 HOW.out.lt; have B2 := Lib.hid (below_to HBE.out hb2 HBE.out.size); have K2 := Lib.hid (HBK.out.below hb2 HBK.out.lt); clear hb2)
          go_roundw
          case rel => exact ⟨k + 1, g, d, m, by omega, by go_num, rfl, by rw [HE.out]; exact O2.out, B2.out, K2.out, HNE.out⟩
          case measure => simp [intOf]; omega
      · have hk' : k = n := by omega
        have HK := Lib.hid hk'
        clear hk'
        go_wp2_with fail
        go_ret
        have h1 := HOW.out.len
        have h2 := HOW.out.own
        rw [HK.out] at h1 h2
        exact ⟨g, d, ret_sl h1, h2, HBE.out⟩
  · have hv' : trB S = false := by simpa using hv
    rw [nx_no hv']
    clear hv
    go_enter Try.func14, Try.ntmps14
    go_wp2_with (go_at_call 38; refine (trackOf_no S _ hS hv').mono ?_; rintro e w1 ⟨rfl, hb1⟩; have B1 := Lib.hid (below_to HB.out hb1 HB.out.size); have O1 : Hid (OwnM w1 w.heap.size w.heap.size 0 0 []) := OwnV.below HO.out hb1 HO.out.lt; clear hb1)
    go_ret
    exact ⟨_, _, rfl, (OwnV.alloc O1.out _ : Own _ _ _ _ []), below_new' B1.out _⟩

end Go.Proofs.Ytkfgimhihknpoaa
