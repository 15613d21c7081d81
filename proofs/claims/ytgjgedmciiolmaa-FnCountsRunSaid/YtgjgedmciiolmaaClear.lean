/-
  CountsClear of the program and of the reference: both hand back the same list. No condition but lengths that fit.
-/
import Derived.Test.YtgjgedmciiolmaaInts
import Derived.Test.YtgjgedmciiolmaaCv
namespace Go.Proofs.Ytgjgedmciiolmaa
open Go.RowKit
set_option linter.unusedVariables false

/-- The places among the first k at which zs is 0. -/
def clr (zs : List Int) : Nat → List Int
  | 0 => []
  | k + 1 => if zs.getD k 0 = 0 then clr zs k ++ [(k : Int)] else clr zs k
theorem clr_length (zs : List Int) (k : Nat) : (clr zs k).length ≤ k := by
  induction k with
  | zero => simp [clr]
  | succ k ih =>
    simp only [clr]
    split
    · simp; omega
    · omega
def clearV (zs : List Int) : List Int := if cvB zs = true then clr zs zs.length else []

set_option maxHeartbeats 800000 in
theorem impl_clear (b off c : Nat) (zs : List Int) (w : World) (hn : zs.length ≤ 1048576) (hc : AtInts w b off zs) (hb : b < w.heap.size) :
    Calls Try.prog 14 #[.slice (some ⟨b, off, none⟩) zs.length c] w (NewInts w (clearV zs)) := by
  have HC := Lib.hid hc
  have HO := Lib.hid (ownM_empty w w.heap.size (Nat.le_refl _))
  have HB := Lib.hid (below_new w (.cells #[] 3))
  have HA : Hid (AtInts (w.alloc (.cells #[] 3)) b off zs) := hc.below (below_new w _) hb
  clear hc
  by_cases hv : cvB zs = true
  · have e : clearV zs = clr zs zs.length := by simp [clearV, hv]
    rw [e]; clear e
    go_enter Try.func14, Try.ntmps14
    go_wp2_with (go_at_call 38; refine (impl_cv b off c zs _ (by omega) (by exact HA.out)).mono ?_; rintro e w' ⟨rfl, rfl⟩)
    go_loopw [3, 13] (fun v q wr => ∃ k g d m : Nat, k ≤ zs.length ∧ q = .int .i64 k ∧ v = .slice (some ⟨g, 0, none⟩) m d ∧ OwnM wr w.heap.size g d m (clr zs k) ∧ Below w.heap.size w wr) (fun _ q _ => zs.length - (intOf q).toNat)
    case atStart => exact ⟨0, _, _, 0, by omega, rfl, rfl, HO.out, HB.out⟩
    case round =>
      clear HO HB HA
      obtain ⟨k, g, d, m, hk, rfl, rfl, hown, hbel⟩ := hrel
      have hm : m ≤ 1048576 := by
        have := hown.len
        have := clr_length zs k
        omega
      by_cases hlt : k < zs.length
      · have hcell := (hbel.cell (p := ⟨b, off + k, none⟩) hb).trans (HC.out k hlt)
        obtain ⟨x, hx⟩ : ∃ x, zs.getD k 0 = x := ⟨_, rfl⟩
        rw [hx] at hcell
        by_cases h0 : x = 0
        · have e : clr zs (k + 1) = clr zs k ++ [(k : Int)] := by simp only [clr]; rw [if_pos (by rw [hx, h0])]
          have HE := Lib.hid e
          have t0 := beq_t h0
          clear e h0 hx
          go_wp2_with (at_builtin; refine wpList_app1i rfl (.tmp 20) (.tmp 22) rfl _ rfl hown rfl (by omega) ?_; intro g' c' w' hown' hg' hat')
          rw [← HE.out] at hown'
          have R := hown'
          have RB := below_app hbel hg' hown.le
          clear hown hown' hg' hat' hbel hcell
          go_wp2
          go_roundw
          case rel => exact ⟨k + 1, g', c', m + 1, by omega, by go_num, rfl, R, RB⟩
          case measure => simp [intOf]; omega
        · have e : clr zs (k + 1) = clr zs k := by simp only [clr]; rw [if_neg (by rw [hx]; exact h0)]
          rw [← e] at hown
          have HO := Lib.hid hown
          have t0 := beq_f h0
          clear e h0 hx hown
          go_wp2
          go_roundw
          case rel => exact ⟨k + 1, g, d, m, by omega, by go_num, rfl, HO.out, hbel⟩
          case measure => simp [intOf]; omega
      · have hk' : k = zs.length := by omega
        have HK := Lib.hid hk'
        clear hk'
        go_wp2
        go_ret
        have h1 := hown.len
        have h2 := hown.own
        rw [HK.out] at h1 h2
        exact ⟨g, d, ret_sl h1, h2, hbel⟩
  · have e : clearV zs = [] := by simp [clearV, hv]
    rw [e]; clear e
    have hv' : cvB zs = false := by simpa using hv
    clear hv
    go_enter Try.func14, Try.ntmps14
    go_wp2_with (go_at_call 38; refine (impl_cv b off c zs _ (by omega) (by exact HA.out)).mono ?_; rintro e w' ⟨rfl, rfl⟩)
    go_ret
    exact ⟨_, _, rfl, HO.out.own, HB.out⟩

set_option maxHeartbeats 800000 in
theorem spec_clear (b off c : Nat) (zs : List Int) (w : World) (hn : zs.length ≤ 1048576) (hc : AtInts w b off zs) (hb : b < w.heap.size) :
    Calls Try.prog 15 #[.slice (some ⟨b, off, none⟩) zs.length c] w (NewInts w (clearV zs)) := by
  have HC := Lib.hid hc
  have HO := Lib.hid (ownM_empty w w.heap.size (Nat.le_refl _))
  have HB := Lib.hid (below_new w (.cells #[] 3))
  clear hc
  go_enter Try.func15, Try.ntmps15
  go_wp2_with fail
  go_loopw [3, 4] (fun v q wr => ∃ k g d m : Nat, k ≤ zs.length ∧ q = .int .i64 k ∧ v = .slice (some ⟨g, 0, none⟩) m d ∧ OwnM wr w.heap.size g d m (clr zs k) ∧ Below w.heap.size w wr ∧ (cvB zs = false → k = 0)) (fun _ q _ => zs.length - (intOf q).toNat)
  case atStart => exact ⟨0, _, _, 0, by omega, rfl, rfl, HO.out, HB.out, fun _ => rfl⟩
  case round =>
    clear HO HB
    obtain ⟨k, g, d, m, hk, rfl, rfl, hown, hbel, hz⟩ := hrel
    have hm : m ≤ 1048576 := by
      have := hown.len
      have := clr_length zs k
      omega
    have HZ := Lib.hid hz
    clear hz
    have HA : Hid (AtInts wr b off zs) := HC.out.below hbel hb
    by_cases hlt : k < zs.length
    · have t1 := dec_t hlt
      by_cases hv : cvB zs = true
      · have hcell := HA.out k hlt
        obtain ⟨x, hx⟩ : ∃ x, zs.getD k 0 = x := ⟨_, rfl⟩
        rw [hx] at hcell
        by_cases h0 : x = 0
        · have e : clr zs (k + 1) = clr zs k ++ [(k : Int)] := by simp only [clr]; rw [if_pos (by rw [hx, h0])]
          have HE := Lib.hid e
          have t0 := beq_t h0
          clear e h0 hx
          go_wp2_with (first | (go_at_call 39; refine (spec_cv b off c zs _ (by omega) (by exact HA.out)).mono ?_; rintro e w' ⟨rfl, rfl⟩) | (at_builtin; refine wpList_app1i rfl (.tmp 21) (.tmp 23) rfl _ rfl hown rfl (by omega) ?_; intro g' c' w' hown' hg' hat'))
          rw [← HE.out] at hown'
          have R := hown'
          have RB := below_app hbel hg' hown.le
          clear hown hown' hg' hat' hbel hcell
          go_wp2
          go_roundw
          case rel => exact ⟨k + 1, g', c', m + 1, by omega, by go_num, rfl, R, RB, fun h => by rw [hv] at h; cases h⟩
          case measure => simp [intOf]; omega
        · have e : clr zs (k + 1) = clr zs k := by simp only [clr]; rw [if_neg (by rw [hx]; exact h0)]
          rw [← e] at hown
          have HO := Lib.hid hown
          have t0 := beq_f h0
          clear e h0 hx hown
          go_wp2_with (go_at_call 39; refine (spec_cv b off c zs _ (by omega) (by exact HA.out)).mono ?_; rintro e w' ⟨rfl, rfl⟩)
          go_roundw
          case rel => exact ⟨k + 1, g, d, m, by omega, by go_num, rfl, HO.out, hbel, fun h => by rw [hv] at h; cases h⟩
          case measure => simp [intOf]; omega
      · have hv' : cvB zs = false := by simpa using hv
        clear hv
        go_wp2_with (go_at_call 39; refine (spec_cv b off c zs _ (by omega) (by exact HA.out)).mono ?_; rintro e w' ⟨rfl, rfl⟩)
        go_ret
        have h1 := hown.len
        have h2 := hown.own
        rw [HZ.out hv'] at h1 h2
        have e : clearV zs = [] := by simp [clearV, hv']
        rw [e]
        exact ⟨g, d, ret_sl h1, h2, hbel⟩
    · have t1 := dec_f hlt
      have hk' : k = zs.length := by omega
      have HK := Lib.hid hk'
      clear hk'
      go_wp2_with fail
      go_ret
      have h1 := hown.len
      have h2 := hown.own
      have e : clr zs k = clearV zs := by
        by_cases hv : cvB zs = true
        · simp [clearV, hv, HK.out]
        · rw [HZ.out (by simpa using hv)]; simp [clearV, hv, clr]
      rw [e] at h1 h2
      exact ⟨g, d, ret_sl h1, h2, hbel⟩

end Go.Proofs.Ytgjgedmciiolmaa
