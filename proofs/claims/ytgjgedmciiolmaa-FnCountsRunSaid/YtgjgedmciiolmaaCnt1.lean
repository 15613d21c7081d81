/-
  The drawing of counts: l92Counts, DrawCountsClear; the law FnCountsClear. No condition.
-/
import Derived.Test.YtgjgedmciiolmaaCode5
import Derived.Test.YtgjgedmciiolmaaClear
import Derived.Test.YtgjgedmciiolmaaPulse2
namespace Go.Proofs.Ytgjgedmciiolmaa
open Go.RowKit
set_option linter.unusedVariables false

set_option maxHeartbeats 1600000 in
theorem l92Counts_any (base R p : Nat) (w : World) (hp : p ≤ 100000) (hr : Rdr w base R p) :
    Calls Try.prog 36 #[.pointer (some ⟨R, 0, none⟩)] w (DrawnL w base R p 12 4 (-1) 51) := by
  have hRl := hr.lt
  have HR := Lib.hid (hr.alloc (.cells #[] 3))
  have HO := Lib.hid (ownM_empty w w.heap.size (Nat.le_refl _))
  have HG := Lib.hid (grownBy_alloc (World.grownBy.refl w (some R)) (.cells #[] 3))
  clear hr
  go_enter Try.func36, Try.ntmps36
  go_wp2_with fail
  refine (pick_any base R p 4 _ (by omega) (by omega) HR.out).mono ?_
  rintro e w1 ⟨x, rfl, hx, hr1, hg1⟩
  have hx3 : x < 4 := by have := hx (by omega); omega
  have R1 := Lib.hid hr1
  have G1 := Lib.hid (grownBy_trans HG.out hg1)
  have O1 : Hid (OwnM w1 w.heap.size w.heap.size 0 0 []) := Lib.hid (OwnV.grown HO.out hg1 (by intro h; injection h; omega))
  clear hr1 hg1 hx HR HO HG
  go_wp2_with fail
  go_loopw [3, 5] (fun v q wr => ∃ (k g d m : Nat) (zs : List Int), k ≤ 1 + x ∧ q = .int .i64 k ∧ v = .slice (some ⟨g, 0, none⟩) m d ∧ m = k ∧ OwnM wr w.heap.size g d m zs ∧ (∀ z ∈ zs, -1 ≤ z ∧ z ≤ 51) ∧ Rdr wr base R (p + 1 + 2 * k) ∧ w.grownBy wr (some R)) (fun _ q _ => 1 + x - (intOf q).toNat)
  case atStart => exact ⟨0, _, _, 0, [], by omega, rfl, rfl, rfl, O1.out, by simp, R1.out, G1.out⟩
  case round =>
    clear O1 R1 G1
    obtain ⟨k, g, d, m, zs, hk, rfl, rfl, rfl, hown, hin, hr, hg⟩ := hrel
    have HOW := Lib.hid hown
    have HIN := Lib.hid hin
    have HR := Lib.hid hr
    have HG := Lib.hid hg
    have hgR : R ≠ g := by have := hown.le; omega
    clear hown hin hr hg
    by_cases hlt : m < 1 + x
    · have t0 := dec_t (show (m : Int) < 1 + (x : Int) by omega)
      go_wp2_with fail
      refine (pick_any base R (p + 1 + 2 * m) 4 _ (by omega) (by omega) HR.out).mono ?_
      rintro e w2 ⟨y, rfl, hy, hr2, hg2⟩
      have hy3 : y < 4 := by have := hy (by omega); omega
      have R2 := Lib.hid hr2
      have G2 := Lib.hid (grownBy_trans HG.out hg2)
      have O2 : Hid (OwnM w2 w.heap.size g d m zs) := Lib.hid (OwnV.grown HOW.out hg2 (by intro h; injection h; omega))
      clear hr2 hg2 hy
      go_wp2_with fail
      refine (pick_any base R (p + 1 + 2 * m + 1) 3 _ (by omega) (by omega) R2.out).mono ?_
      rintro e w3 ⟨y', rfl, hy', hr3, hg3⟩
      have hy4 : y' < 3 := by have := hy' (by omega); omega
      have R3 := Lib.hid hr3
      have G3 := Lib.hid (grownBy_trans G2.out hg3)
      have O3 : Hid (OwnM w3 w.heap.size g d m zs) := Lib.hid (OwnV.grown O2.out hg3 (by intro h; injection h; omega))
      clear hr3 hg3 hy'
      have hprod : 0 ≤ (y : Int) * (y' : Int) ∧ (y : Int) * (y' : Int) ≤ 6 := by
        have h1 : y * y' ≤ 3 * 2 := Nat.mul_le_mul (by omega) (by omega)
        have h2 : ((y * y' : Nat) : Int) = (y : Int) * (y' : Int) := Int.natCast_mul y y'
        omega
      obtain ⟨q, hq⟩ : ∃ q : Int, (y : Int) * (y' : Int) = q := ⟨_, rfl⟩
      have hwq : IntKind.i64.wrap ((y : Int) * (y' : Int)) = q := by rw [hq]; rw [hq] at hprod; exact IntWalk.i64_in _ (by omega)
      rw [hq] at hprod
      have HQ := Lib.hid hq
      clear hq
      go_wp2_with (at_builtin; refine wpList_app1i rfl (.tmp 15) (.tmp 21) rfl _ rfl O3.out rfl (by omega) ?_; intro g' c' w' hown' hg' hat')
      have R := Lib.hid hown'
      have RG := Lib.hid (grownBy_to G3.out hg' O3.out.le)
      have RR := Lib.hid (R3.out.grown hg' (fun g0 h => by injection h with h; subst h; have := O3.out.le; omega))
      have RIN : Hid (∀ z ∈ zs ++ [q], -1 ≤ z ∧ z ≤ 51) := Lib.hid (by
        intro z hz
        rcases List.mem_append.1 hz with h | h
        · exact HIN.out z h
        · simp at h; omega)
      clear hown' hg' hat'
      go_wp2
      go_roundw
      case rel => exact ⟨m + 1, g', c', m + 1, _, by omega, by go_num, rfl, rfl, R.out, RIN.out, by have := RR.out; rw [show p + 1 + 2 * m + 1 + 1 = p + 1 + 2 * (m + 1) by omega] at this; exact this, RG.out⟩
      case measure => simp [intOf]; omega
    · have t0 := dec_f (show ¬ (m : Int) < 1 + (x : Int) by omega)
      have hm1 : 1 ≤ m := by omega
      have hml := HOW.out.len
      have HML := Lib.hid hml
      have hzl : zs.length ≤ 4 := by omega
      have hzl1 : 1 ≤ zs.length := by omega
      clear hml
      go_wp2_with fail
      refine (pick_any base R (p + 1 + 2 * m) 30 _ (by omega) (by omega) HR.out).mono ?_
      rintro e w2 ⟨y, rfl, _, hr2, hg2⟩
      have R2 := Lib.hid hr2
      have G2 := Lib.hid (grownBy_trans HG.out hg2)
      have O2 : Hid (OwnM w2 w.heap.size g d m zs) := Lib.hid (OwnV.grown HOW.out hg2 (by intro h; injection h; omega))
      clear hr2 hg2 HR HG HOW
      by_cases hy0 : y = 0
      · subst hy0
        go_wp2_with fail
        refine (pickLit_any base R (p + 1 + 2 * m + 1) [-1, 51, 50] 3 3 w2 (by omega) (by omega) R2.out).mono ?_
        rintro e w3 ⟨i, rfl, hi, hat3, hsz3, hr3, hg3⟩
        have hc3 := hat3 i (by show i < 3; omega)
        rw [Nat.zero_add] at hc3
        have hv : -1 ≤ ([-1, 51, 50] : List Int).getD i 0 ∧ ([-1, 51, 50] : List Int).getD i 0 ≤ 51 := by
          match i, hi with
          | 0, _ => decide
          | 1, _ => decide
          | 2, _ => decide
        generalize ([-1, 51, 50] : List Int).getD i 0 = v at *
        have R3 := Lib.hid hr3
        have G3 := Lib.hid (grownBy_trans G2.out hg3)
        have O3 : Hid (OwnM w3 w.heap.size g d m zs) := Lib.hid (OwnV.grown O2.out hg3 (by intro h; injection h; omega))
        have hl0 := O3.out.own.at 0 (by omega)
        rw [Nat.zero_add] at hl0
        generalize zs.getD 0 0 = u0 at hl0
        have f0 := OwnV.frozen O3.out 0
        have i4 : (i : Int) < 3 := by omega
        have hne2 : w2.heap.size ≠ g := by have := O2.out.lt; omega
        have hst : OwnM (w3.setCell ⟨g, 0, none⟩ (.int .i64 v)) w.heap.size g d m (zs.set 0 v) := by
          have := OwnV.store O3.out 0 (.int .i64 v)
          unfold OwnM
          rw [List.map_set]
          exact this
        have HST := Lib.hid hst
        have GST := Lib.hid (grownBy_to G3.out (grownBy_set w3 g 0 (.int .i64 v)) O3.out.le)
        have RST := Lib.hid (R3.out.grown (grownBy_set w3 g 0 (.int .i64 v)) (fun g0 h => by injection h with h; subst h; have := O3.out.le; omega))
        have HIN2 : Hid (∀ z ∈ zs.set 0 v, -1 ≤ z ∧ z ≤ 51) := Lib.hid (by
          intro z hz
          rcases List.mem_or_eq_of_mem_set hz with h | h
          · exact HIN.out z h
          · rw [h]; exact hv)
        have i0 : (0 : Int) < (m : Int) := by omega
        have i0' : 0 < m := by omega
        clear hr3 hg3 hat3 hst
        go_wp2_with fail
        go_ret
        have hl2 : m = (zs.set 0 v).length := HST.out.len
        refine ⟨zs.set 0 v, g, d, p + 1 + 2 * m + 1 + 1, ret_sl hl2, by omega, HIN2.out, ?_, OwnV.cap2 HST.out, HST.out.own.at, HST.out.le, HST.out.lt, by omega, RST.out, GST.out⟩
        have := OwnV.cap HST.out
        omega
      · have t1 := beq_f (show (y : Int) ≠ 0 by omega)
        have t1' : (y == 0) = false := by simpa using hy0
        by_cases hy1 : y = 1
        · subst hy1
          have E := Lib.hid (own_empty w2 w.heap.size G2.out.size)
          have EG := Lib.hid (grownBy_alloc G2.out (.cells #[] 3))
          have ER := Lib.hid (R2.out.alloc (.cells #[] 3))
          go_wp2_with fail
          go_ret
          exact ⟨[], _, _, p + 1 + 2 * m + 1, rfl, by simp, by simp, by simp, by omega, E.out.at, E.out.le, E.out.lt, by omega, ER.out, EG.out⟩
        · have t2 := beq_f (show (y : Int) ≠ 1 by omega)
          have t2' : (y == 1) = false := by simpa using hy1
          go_wp2_with fail
          go_ret
          refine ⟨zs, g, d, p + 1 + 2 * m + 1, ret_sl HML.out, by omega, HIN.out, ?_, OwnV.cap2 O2.out, O2.out.own.at, O2.out.le, O2.out.lt, by omega, R2.out, G2.out⟩
          have := OwnV.cap O2.out
          have := HML.out
          omega

set_option maxHeartbeats 400000 in
theorem draw_cclear (A : Option Addr) (c m : Nat) (w : World) (hmc : m ≤ c) (hc : c ≤ 9223372036854775807) (hr : ByteRow w w.heap.size A m) :
    Calls Try.prog 13 #[.slice A m c] w (DrawL w 4 (-1) 51) := by
  have HO := Lib.hid (open_any w.heap.size A m c w (Nat.le_refl _) hmc hc hr)
  clear hr
  go_enter Try.func13, Try.ntmps13
  go_wp2_with fail
  refine HO.out.mono ?_
  rintro e w1 ⟨rfl, hr1, hb1⟩
  have HR1 := Lib.hid hr1
  have HB1 := Lib.hid hb1
  clear hr1 hb1 HO
  go_wp2_with fail
  refine (l92Counts_any w.heap.size w.heap.size 0 _ (by omega) HR1.out).mono ?_
  rintro e w2 ⟨zs, g, d, p', rfl, hl, hin, hlc, hc2, hat, hge, hlt, _, _, hg2⟩
  have HA := Lib.hid hat
  have HIN := Lib.hid hin
  have HB2 := Lib.hid (below_app HB1.out hg2 (Nat.le_refl _))
  have HGE := Lib.hid (Nat.le_trans HB1.out.size hge)
  clear hat hin hg2 hge
  go_wp2_with fail
  go_ret
  exact ⟨zs, g, d, rfl, hl, HIN.out, hlc, hc2, HA.out, HGE.out, hlt, HB2.out⟩

theorem mem_clr (zs : List Int) (i k : Nat) : ((i : Int) ∈ clr zs k) ↔ (i < k ∧ zs.getD i 0 = 0) := by
  induction k with
  | zero => simp [clr]
  | succ k ih =>
    simp only [clr]
    by_cases h : zs.getD k 0 = 0
    · rw [if_pos h, List.mem_append, ih, List.mem_singleton]
      constructor
      · rintro (⟨h1, h2⟩ | h1)
        · exact ⟨by omega, h2⟩
        · have : i = k := by omega
          subst this
          exact ⟨by omega, h⟩
      · rintro ⟨h1, h2⟩
        by_cases hik : i < k
        · exact .inl ⟨hik, h2⟩
        · exact .inr (by omega)
    · rw [if_neg h, ih]
      constructor
      · rintro ⟨h1, h2⟩; exact ⟨by omega, h2⟩
      · rintro ⟨h1, h2⟩
        refine ⟨?_, h2⟩
        by_cases hik : i = k
        · subst hik; exact absurd h2 h
        · omega
theorem clr_nat (zs : List Int) (k : Nat) : ∀ z ∈ clr zs k, ∃ i : Nat, z = i := by
  induction k with
  | zero => intro z hz; simp [clr] at hz
  | succ k ih =>
    intro z hz
    simp only [clr] at hz
    split at hz
    · rcases List.mem_append.1 hz with h | h
      · exact ih z h
      · simp at h; exact ⟨k, h⟩
    · exact ih z hz
theorem cv_iff {zs : List Int} : cvB zs = true ↔ (1 ≤ zs.length ∧ zs.length ≤ 8) ∧ ∀ k, k < zs.length → 0 ≤ zs.getD k 0 ∧ zs.getD k 0 ≤ 50 := by
  constructor
  · intro h; exact ⟨cv_len h, fun k hk => cv_in h k hk⟩
  · rintro ⟨h1, h2⟩
    unfold cvB
    rw [inB_true (by omega), Bool.true_and, List.all_eq_true]
    intro z hz
    obtain ⟨k, hk⟩ := List.getElem?_of_mem hz
    have hl := (List.getElem?_eq_some_iff.1 hk).1
    have := h2 k hl
    simp only [List.getD, hk, Option.getD_some] at this
    exact inB_true this
theorem plL_get (zs : List Int) (k j : Nat) (hk : k < zs.length) (hj : j < zs.length) : (plL zs (k : Int)).getD j 0 = if j = k then zs.getD k 0 + 1 else if j + 1 = k then zs.getD j 0 - 1 else zs.getD j 0 := by
  have e1 : pidx (k : Int) = k := pidx_pos (by omega)
  have e2 : pway (k : Int) = 1 := pway_pos (by omega)
  unfold plL plB plA
  rw [e1, e2, Int.toNat_natCast, if_pos hk]
  by_cases h0 : 0 < k
  · rw [if_pos h0]
    by_cases h1 : j = k
    · subst h1
      rw [if_pos rfl]
      simp [List.getD, hj, show ¬ j - 1 = j by omega]
    · rw [if_neg h1]
      by_cases h2 : j + 1 = k
      · rw [if_pos h2]
        have h3 : k - 1 = j := by omega
        rw [h3]
        simp [List.getD, hj, show ¬ k = j by omega]
      · rw [if_neg h2]
        simp [List.getD, show ¬ k = j by omega, show ¬ k - 1 = j by omega]
  · rw [if_neg h0]
    obtain rfl : k = 0 := by omega
    by_cases h1 : j = 0
    · subst h1; rw [if_pos rfl]; simp [List.getD, hj]
    · rw [if_neg h1, if_neg (by omega)]
      simp [List.getD, show ¬ 0 = j by omega]
theorem okP_clear {zs : List Int} {k : Nat} (hv : cvB zs = true) (hk : k < zs.length) (h0 : zs.getD k 0 = 0) : okP zs (k : Int) = (decide (k = 0) || decide (0 < zs.getD (k - 1) 0)) := by
  have e1 : pidx (k : Int) = k := pidx_pos (by omega)
  have hcv := cv_iff.1 hv
  unfold okP
  rw [e1, dec_t (by omega), Bool.true_and, Bool.eq_iff_iff, cv_iff, plL_length]
  simp only [Bool.or_eq_true, decide_eq_true_eq]
  constructor
  · rintro ⟨_, h⟩
    by_cases hk0 : k = 0
    · exact .inl hk0
    · right
      have := (h (k - 1) (by omega)).1
      rw [plL_get zs k (k - 1) hk (by omega), if_neg (by omega), if_pos (by omega)] at this
      omega
  · intro h
    refine ⟨hcv.1, fun j hj => ?_⟩
    rw [plL_get zs k j hk hj]
    have hb := hcv.2 j hj
    by_cases h1 : j = k
    · rw [if_pos h1, h0]; omega
    · rw [if_neg h1]
      by_cases h2 : j + 1 = k
      · rw [if_pos h2]
        rw [show k - 1 = j by omega] at h
        omega
      · rw [if_neg h2]; exact hb
theorem not_clear {zs : List Int} {k : Nat} (hk : k < zs.length) (h0 : zs.getD k 0 = 0) : ¬ ((k : Int) ∈ clearV (plL zs (k : Int))) := by
  unfold clearV
  split
  · rw [mem_clr]
    rintro ⟨_, h⟩
    rw [plL_get zs k k hk hk, if_pos rfl] at h
    omega
  · simp

end Go.Proofs.Ytgjgedmciiolmaa
