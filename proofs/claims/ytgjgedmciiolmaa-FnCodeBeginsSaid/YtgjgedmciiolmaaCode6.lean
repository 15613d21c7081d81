/-
  The law FnCodeFrom. No condition.
-/
import Derived.Test.YtgjgedmciiolmaaCode5
namespace Go.Proofs.Ytgjgedmciiolmaa
open Go.RowKit
set_option linter.unusedVariables false

theorem codeT_size_le {zs : List Int} : (codeT zs).size ≤ 9 := by
  by_cases h : codeB zs = true
  · rw [codeT_size h]; have := codeB_parts h; omega
  · unfold codeT; rw [if_neg h]; decide
theorem from_dash {S : ByteArray} (h : fromOk S = true) : fromOk (S ++ ⟨#[45]⟩) = false := by
  unfold fromOk at *
  simp only [Bool.and_eq_true, decide_eq_true_eq] at h
  have hz : (S ++ ⟨#[45]⟩ : ByteArray).size = S.size + 1 := by rw [ByteArray.size_append]; rfl
  rw [hz, dec_f (by omega)]
  rfl

def DrawT (w : World) (mx : Nat) (e : Ending) (w' : World) : Prop := ∃ s : Bs, e = .returned (.string s) ∧ s.size ≤ mx ∧ Below w.heap.size w w'
set_option maxHeartbeats 1600000 in
theorem draw_codefrom (A : Option Addr) (c m : Nat) (w : World) (hmc : m ≤ c) (hc : c ≤ 9223372036854775807) (hr : ByteRow w w.heap.size A m) :
    Calls Try.prog 29 #[.slice A m c] w (DrawT w 20) := by
  have HO := Lib.hid (open_any w.heap.size A m c w (Nat.le_refl _) hmc hc hr)
  clear hr
  go_enter Try.func29, Try.ntmps29
  go_wp2_with fail
  refine HO.out.mono ?_
  rintro e w1 ⟨rfl, hr1, hb1⟩
  have HR1 := Lib.hid hr1
  have HB1 := Lib.hid hb1
  clear hr1 hb1 HO
  go_wp2_with fail
  refine (l91Code_any w.heap.size w.heap.size 0 _ (by omega) HR1.out).mono ?_
  rintro e w2 ⟨zs, g, d, p', rfl, hl, hin, hlc, hc2, hat, hge, hlt, hp', hr2, hg2⟩
  have HA := Lib.hid hat
  have HR2 := Lib.hid hr2
  have HB2 := Lib.hid (below_app HB1.out hg2 (Nat.le_refl _))
  have HL2 := Lib.hid hlt
  clear hat hin hg2 hge hr2 hlt
  go_wp2_with fail
  refine (spec_codet g 0 d zs _ (by omega) HL2.out HA.out).mono ?_
  rintro e w3 ⟨rfl, hb3⟩
  have hsz := codeT_size_le (zs := zs)
  generalize codeT zs = S at *
  have HR3 := Lib.hid (HR2.out.below hb3 HR2.out.lt)
  have HB3 := Lib.hid (below_to HB2.out hb3 HB2.out.size)
  clear hb3
  go_wp2_with fail
  refine (pick_any w.heap.size w.heap.size p' 6 _ (by omega) (by omega) HR3.out).mono ?_
  rintro e w4 ⟨x, rfl, _, hr4, hg4⟩
  have HR4 := Lib.hid hr4
  have HB4 := Lib.hid (below_app HB3.out hg4 (Nat.le_refl _))
  clear hr4 hg4
  by_cases hx0 : x = 0
  · subst hx0
    have hof := of_any w.heap.size w.heap.size (p' + 1) w4.heap.size [⟨#[45]⟩, ⟨#[45, 55]⟩, ⟨#[45, 48]⟩, ⟨#[32]⟩, ⟨#[49]⟩, ⟨#[45, 45, 49]⟩] _ (by omega) (HR4.out.alloc (.cells #[.string ⟨#[45]⟩, .string ⟨#[45, 55]⟩, .string ⟨#[45, 48]⟩, .string ⟨#[32]⟩, .string ⟨#[49]⟩, .string ⟨#[45, 45, 49]⟩] 9)) (Nat.ne_of_gt HR4.out.lt) (by simp) (by simp) (atStrs_new w4 9 [⟨#[45]⟩, ⟨#[45, 55]⟩, ⟨#[45, 48]⟩, ⟨#[32]⟩, ⟨#[49]⟩, ⟨#[45, 45, 49]⟩])
    have HOF := Lib.hid hof
    clear hof
    go_wp2_with fail
    refine HOF.out.mono ?_
    rintro e w5 ⟨y, hy, rfl, hr5, hg5⟩
    have hy1 : y.size ≤ 3 := by simp at hy; rcases hy with rfl | rfl | rfl | rfl | rfl | rfl <;> decide
    have hsz2 : (S ++ y).size ≤ 20 := by rw [ByteArray.size_append]; omega
    have HSZ2 := Lib.hid hsz2
    have HB5 := Lib.hid (below_app (below_new' HB4.out (.cells #[.string ⟨#[45]⟩, .string ⟨#[45, 55]⟩, .string ⟨#[45, 48]⟩, .string ⟨#[32]⟩, .string ⟨#[49]⟩, .string ⟨#[45, 45, 49]⟩] 9)) hg5 (Nat.le_refl _))
    clear hy hr5 hg5 hsz2 HOF
    go_wp2_with fail
    go_ret
    exact ⟨_, rfl, HSZ2.out, HB5.out⟩
  · have t1 := beq_f (show (x : Int) ≠ 0 by omega)
    have t1' : (x == 0) = false := by simpa using hx0
    by_cases hx1 : x = 1
    · subst hx1
      have hof := of_any w.heap.size w.heap.size (p' + 1) w4.heap.size [⟨#[]⟩, ⟨#[45]⟩, ⟨#[51, 45]⟩, ⟨#[49, 50]⟩, ⟨#[49, 45, 49, 45, 49, 45, 49, 45, 49, 45, 49]⟩, ⟨#[97]⟩] _ (by omega) (HR4.out.alloc (.cells #[.string ⟨#[]⟩, .string ⟨#[45]⟩, .string ⟨#[51, 45]⟩, .string ⟨#[49, 50]⟩, .string ⟨#[49, 45, 49, 45, 49, 45, 49, 45, 49, 45, 49]⟩, .string ⟨#[97]⟩] 9)) (Nat.ne_of_gt HR4.out.lt) (by simp) (by simp) (atStrs_new w4 9 [⟨#[]⟩, ⟨#[45]⟩, ⟨#[51, 45]⟩, ⟨#[49, 50]⟩, ⟨#[49, 45, 49, 45, 49, 45, 49, 45, 49, 45, 49]⟩, ⟨#[97]⟩])
      have HOF := Lib.hid hof
      clear hof
      go_wp2_with fail
      refine HOF.out.mono ?_
      rintro e w5 ⟨y, hy, rfl, hr5, hg5⟩
      have hy1 : y.size ≤ 20 := by simp at hy; rcases hy with rfl | rfl | rfl | rfl | rfl | rfl <;> decide
      have HB5 := Lib.hid (below_app (below_new' HB4.out (.cells #[.string ⟨#[]⟩, .string ⟨#[45]⟩, .string ⟨#[51, 45]⟩, .string ⟨#[49, 50]⟩, .string ⟨#[49, 45, 49, 45, 49, 45, 49, 45, 49, 45, 49]⟩, .string ⟨#[97]⟩] 9)) hg5 (Nat.le_refl _))
      clear hy hr5 hg5 HOF
      go_wp2_with fail
      go_ret
      exact ⟨_, rfl, hy1, HB5.out⟩
    · have t2 := beq_f (show (x : Int) ≠ 1 by omega)
      have t2' : (x == 1) = false := by simpa using hx1
      go_wp2_with fail
      go_ret
      exact ⟨S, rfl, by omega, HB4.out⟩

set_option maxHeartbeats 3200000 in
theorem law_CodeFrom (A : Option Addr) (c : Nat) (ys : List Int) (w : World) (hq : ArgBytes w A c ys) :
    Calls Try.prog 8 #[.slice A ys.length c] w fun e w' => e = .returned (.bool true) ∧ Below w.heap.size w w' := by
  obtain ⟨hr, hlc, hc⟩ := hq
  by_cases hbig : 1048576 < ys.length
  · have t0 := dec_t (show (1048576 : Int) < (ys.length : Int) by omega)
    go_enter Try.func8, Try.ntmps8
    go_wp2_with fail
    go_ret
    exact ⟨rfl, Below.refl _ _⟩
  have t0 := dec_f (show ¬ (1048576 : Int) < (ys.length : Int) by omega)
  have HD := Lib.hid (draw_codefrom A c ys.length w hlc hc hr)
  clear hr
  go_enter Try.func8, Try.ntmps8
  go_wp2_with fail
  refine HD.out.mono ?_
  rintro e w1 ⟨S, rfl, hS, hb1⟩
  have B1 := Lib.hid hb1
  clear hb1 HD
  go_wp2_with fail
  refine (impl_codefrom S _ (by omega)).mono ?_
  rintro e w2 ⟨g2, c2, rfl, ho2, hb2⟩
  have O2 := Lib.hid ho2
  have B2 := Lib.hid (below_to B1.out hb2 B1.out.size)
  clear ho2 hb2 B1
  go_wp2_with fail
  refine (spec_codefrom S _ (by omega)).mono ?_
  rintro e w3 ⟨g3, c3, rfl, ho3, hb3⟩
  have O3 := Lib.hid ho3
  have P3 := Lib.hid (O2.out.below hb3 O2.out.lt)
  have B3 := Lib.hid (below_to B2.out hb3 B2.out.size)
  clear ho3 hb3 B2 O2
  by_cases hf : fromOk S = true
  · have hv : fromV S = evl S S.size := by unfold fromV; rw [if_pos hf]
    have hll : (fromV S).length ≤ 20 := by rw [hv, evl_length]; omega
    obtain ⟨hc1, hc2'⟩ := from_code hf
    rw [← hv] at hc1 hc2'
    have hdash := from_dash hf
    rw [hf]
    have hszd : (S ++ ⟨#[45]⟩ : ByteArray).size ≤ 21 := by rw [ByteArray.size_append]; show _ + 1 ≤ _; omega
    have hcd := fun w => impl_codefrom (S ++ ⟨#[45]⟩) w (by omega)
    generalize fromV S = zs at *
    have HC1 := Lib.hid hc1
    have HC2 := Lib.hid hc2'
    have HDA := Lib.hid hdash
    have HCD := Lib.hid hcd
    clear hv hc1 hc2' hdash hcd hf
    go_wp2_with fail
    refine (sameInts_any _ 0 _ _ 0 _ zs zs _ (by omega) (by omega) P3.out.at O3.out.at).mono ?_
    rintro e w4 ⟨rfl, n4, rfl⟩
    rw [dec_t (show zs = zs from rfl)]
    have A4 : Hid (AtInts (w3.drewN n4) g2 0 zs) := Lib.hid (P3.out.at.keep rfl)
    have L4 : Hid (g2 < (w3.drewN n4).heap.size) := Lib.hid P3.out.lt
    have B4 := Lib.hid (below_drewN B3.out n4)
    generalize w3.drewN n4 = w4 at *
    clear P3 O3 B3
    go_wp2_with fail
    refine (HCD.out _).mono ?_
    rintro e w5 ⟨g5, c5, rfl, ho5, hb5⟩
    rw [HDA.out]
    have A5 := Lib.hid (A4.out.below hb5 L4.out)
    have L5 := Lib.hid (Nat.lt_of_lt_of_le L4.out hb5.size)
    have B5 := Lib.hid (below_to B4.out hb5 B4.out.size)
    clear ho5 hb5 A4 L4 B4
    go_wp2_with fail
    refine (impl_codev g2 0 c2 zs _ (by omega) L5.out A5.out).mono ?_
    rintro e w6 ⟨rfl, hb6⟩
    rw [HC1.out]
    have A6 := Lib.hid (A5.out.below hb6 L5.out)
    have L6 := Lib.hid (Nat.lt_of_lt_of_le L5.out hb6.size)
    have B6 := Lib.hid (below_to B5.out hb6 B5.out.size)
    clear hb6 A5 L5 B5
    go_wp2_with fail
    refine (impl_codet g2 0 c2 zs _ (by omega) L6.out A6.out).mono ?_
    rintro e w7 ⟨rfl, hb7⟩
    rw [HC2.out]
    have B7 := Lib.hid (below_to B6.out hb7 B6.out.size)
    clear hb7
    go_wp2_with fail
    go_ret
    exact ⟨rfl, B7.out⟩
  · have hf' : fromOk S = false := by simpa using hf
    have hv : fromV S = [] := by unfold fromV; rw [if_neg hf]
    rw [hf', hv]
    rw [hv] at P3 O3
    clear hf hf' hv
    go_wp2_with fail
    refine (sameInts_any _ 0 _ _ 0 _ [] [] _ (by simp) (by simp) P3.out.at O3.out.at).mono ?_
    rintro e w4 ⟨rfl, n4, rfl⟩
    rw [dec_t (show ([] : List Int) = [] from rfl)]
    have A4 : Hid (AtInts (w3.drewN n4) g2 0 []) := Lib.hid (P3.out.at.keep rfl)
    have A4' : Hid (AtInts (w3.drewN n4) g3 0 []) := Lib.hid (O3.out.at.keep rfl)
    have B4 := Lib.hid (below_drewN B3.out n4)
    generalize w3.drewN n4 = w4 at *
    go_wp2_with fail
    refine (sameInts_any _ 0 _ _ 0 _ [] [] _ (by simp) (by simp) A4.out A4'.out).mono ?_
    rintro e w5 ⟨rfl, n5, rfl⟩
    rw [dec_t (show ([] : List Int) = [] from rfl)]
    go_wp2_with fail
    go_ret
    exact ⟨rfl, below_drewN B4.out n5⟩

end Go.Proofs.Ytgjgedmciiolmaa
