/-
  CodeFrom of the program and of the reference. No condition but lengths that fit.
-/
import Derived.Test.YtgjgedmciiolmaaCodeP
import Derived.Test.YtgjgedmciiolmaaTkPlain
namespace Go.Proofs.Ytgjgedmciiolmaa
open Go.RowKit
set_option linter.unusedVariables false

theorem par_test {n : Nat} : ((n : Int) % 2 == 0) = decide (n % 2 = 0) ∧ ((n : Int) % 2 == 1) = decide (n % 2 = 1) := by
  constructor <;> (rw [Bool.eq_iff_iff, beq_iff_eq, decide_eq_true_eq]; omega)
def CFs (w : World) (S : ByteArray) (e : Ending) (w' : World) : Prop := ∃ g c, e = .returned (.tuple #[.slice (some ⟨g, 0, none⟩) (fromV S).length c, .bool (fromOk S)]) ∧ Own w' w.heap.size g c (fromV S) ∧ Below w.heap.size w w'
set_option maxHeartbeats 1600000 in
theorem impl_codefrom (S : ByteArray) (w : World) (hS : S.size ≤ 1048576) :
    Calls Try.prog 24 #[.string S] w (CFs w S) := by
  have fail0 : ∀ (e0 : fromOk S = false), fromV S = [] := fun e0 => by unfold fromV; rw [e0]; rfl
  have FAIL := Lib.hid fail0
  clear fail0
  by_cases hp : S.size % 2 = 0
  · have hok : fromOk S = false := by unfold fromOk; rw [dec_f (by omega)]; rfl
    have HOK := Lib.hid hok
    have t0 : ((S.size : Int) % 2 == 0) = true := by rw [par_test.1]; exact dec_t hp
    have O0 := Lib.hid (own_empty w w.heap.size (Nat.le_refl _))
    have B0 := Lib.hid (below_new w (.cells #[] 3))
    clear hok hp
    go_enter Try.func24, Try.ntmps24
    go_wp2_with fail
    go_ret2
    unfold CFs
    rw [FAIL.out HOK.out, HOK.out]
    exact ⟨_, _, rfl, O0.out, B0.out⟩
  have t0 : ((S.size : Int) % 2 == 0) = false := by rw [par_test.1]; exact dec_f hp
  by_cases h9 : 9 < S.size
  · have hok : fromOk S = false := by unfold fromOk; rw [dec_f (show ¬ S.size ≤ 9 by omega), Bool.and_false]; rfl
    have HOK := Lib.hid hok
    have t1 := dec_t (show (9 : Int) < (S.size : Int) by omega)
    have O0 := Lib.hid (own_empty w w.heap.size (Nat.le_refl _))
    have B0 := Lib.hid (below_new w (.cells #[] 3))
    clear hok hp
    go_enter Try.func24, Try.ntmps24
    go_wp2_with fail
    go_ret2
    unfold CFs
    rw [FAIL.out HOK.out, HOK.out]
    exact ⟨_, _, rfl, O0.out, B0.out⟩
  have t1 := dec_f (show ¬ (9 : Int) < (S.size : Int) by omega)
  have hok : fromOk S = okc S S.size := by unfold fromOk; rw [dec_t (show S.size % 2 = 1 by omega), dec_t (show S.size ≤ 9 by omega)]; rfl
  have HOK := Lib.hid hok
  clear hok hp
  go_enter Try.func24, Try.ntmps24
  go_wp2_with (at_make; refine wpList_mk0 slInt rfl (.const (.int .i64 0)) (.const (.int .i64 5)) rfl _ w.heap.size 5 rfl rfl rfl (by omega) (by unfold maxLen; omega) (Nat.le_refl _) ?_; intro w1 hown1 hg1; have O1 : Hid (OwnM w1 w.heap.size w.heap.size 5 0 []) := hown1; have B1 := Lib.hid ((Below.refl w.heap.size w).grown hg1 (Nat.le_refl _) (by simp)); clear hown1 hg1)
  go_loopw [4, 19] (fun v q wr => ∃ k g d m : Nat, k ≤ S.size ∧ q = .int .i64 k ∧ v = .slice (some ⟨g, 0, none⟩) m d ∧ OwnM wr w.heap.size g d m (evl S k) ∧ okc S k = true ∧ Below w.heap.size w wr) (fun _ q _ => S.size - (intOf q).toNat)
  case atStart => exact ⟨0, _, _, _, by omega, rfl, rfl, O1.out, rfl, B1.out⟩
  case round =>
    clear O1 B1
    obtain ⟨k, g, d, m, hk, rfl, rfl, hown, hoc, hbel⟩ := hrel
    have hm : m ≤ 10 := by
      have := hown.len
      have := evl_length S k
      omega
    have HOW := Lib.hid hown
    have HOC := Lib.hid hoc
    have HBE := Lib.hid hbel
    have OE := Lib.hid (own_empty wr w.heap.size HBE.out.size)
    have BE := Lib.hid (below_new' HBE.out (.cells #[] 3))
    clear hown hoc hbel
    by_cases hlt : k < S.size
    · have hbt := bt_get S k hlt
      have i1 : (k : Int) < (S.size : Int) := by omega
      have hoks : okc S (k + 1) = (okc S k && okAt S k) := rfl
      have hno := okc_no (S := S) hlt
      have hx := (S[k]'hlt).toNat_lt
      by_cases hpk : k % 2 = 1
      · have t2 : ((k : Int) % 2 == 1) = true := by rw [par_test.2]; exact dec_t hpk
        have hev : evl S (k + 1) = evl S k := by show (if k % 2 = 0 then _ else _) = _; rw [if_neg (by omega)]
        have hat : okAt S k = ((S[k]'hlt) == 45) := by unfold okAt; rw [if_pos hpk, hbt]
        have HEV := Lib.hid hev
        by_cases h45 : (S[k]'hlt) = 45
        · have hok1 : okc S (k + 1) = true := by rw [hoks, HOC.out, hat, h45]; rfl
          have HO1 := Lib.hid hok1
          clear hbt hoks hno hat hok1 hev
          go_wp2_with fail
          go_roundw
          case rel => exact ⟨k + 1, g, d, m, by omega, by go_num, rfl, by rw [HEV.out]; exact HOW.out, HO1.out, HBE.out⟩
          case measure => simp [intOf]; omega
        · have hf : fromOk S = false := by rw [HOK.out]; exact hno (by rw [hat]; simpa using h45)
          have HF := Lib.hid hf
          have t3 : (((S[k]'hlt).toNat : Int) != 45) = true := bne_t (by intro h; apply h45; apply UInt8.toNat_inj.1; show (S[k]'hlt).toNat = 45; omega)
          have t3' : ((S[k]'hlt).toNat != 45) = true := by simpa using (show (S[k]'hlt).toNat ≠ 45 by intro h; apply h45; apply UInt8.toNat_inj.1; exact h)
          clear hbt hoks hno hat hf h45 hev
          go_wp2_with fail
          go_ret2
          unfold CFs
          rw [FAIL.out HF.out, HF.out]
          exact ⟨_, _, rfl, OE.out, BE.out⟩
      · have t2 : ((k : Int) % 2 == 1) = false := by rw [par_test.2]; exact dec_f hpk
        have hev : evl S (k + 1) = evl S k ++ [(((S[k]'hlt).toNat : Int) - 48)] := by show (if k % 2 = 0 then _ else _) = _; rw [if_pos (by omega), hbt]
        have hat : okAt S k = (decide (49 ≤ (S[k]'hlt).toNat) && decide ((S[k]'hlt).toNat ≤ 54)) := by unfold okAt; rw [if_neg hpk, hbt]
        have HEV := Lib.hid hev
        by_cases h49 : (S[k]'hlt).toNat < 49
        · have hf : fromOk S = false := by rw [HOK.out]; exact hno (by rw [hat, dec_f (by omega)]; rfl)
          have HF := Lib.hid hf
          have t3 := dec_t (show ((S[k]'hlt).toNat : Int) < 49 by omega)
          clear hbt hoks hno hat hf hev
          go_wp2_with fail
          go_ret2
          unfold CFs
          rw [FAIL.out HF.out, HF.out]
          exact ⟨_, _, rfl, OE.out, BE.out⟩
        · have t3 := dec_f (show ¬ ((S[k]'hlt).toNat : Int) < 49 by omega)
          by_cases h54 : 54 < (S[k]'hlt).toNat
          · have hf : fromOk S = false := by rw [HOK.out]; exact hno (by rw [hat, dec_f (show ¬ (S[k]'hlt).toNat ≤ 54 by omega), Bool.and_false])
            have HF := Lib.hid hf
            have t4 := dec_t (show (54 : Int) < ((S[k]'hlt).toNat : Int) by omega)
            clear hbt hoks hno hat hf hev
            go_wp2_with fail
            go_ret2
            unfold CFs
            rw [FAIL.out HF.out, HF.out]
            exact ⟨_, _, rfl, OE.out, BE.out⟩
          · have t4 := dec_f (show ¬ (54 : Int) < ((S[k]'hlt).toNat : Int) by omega)
            have hok1 : okc S (k + 1) = true := by rw [hoks, HOC.out, hat, dec_t (by omega), dec_t (by omega)]; rfl
            have HO1 := Lib.hid hok1
            clear hbt hoks hno hat hok1 hev
            go_wp2_with (at_builtin; refine wpList_app1i rfl (.tmp 41) (.tmp 47) rfl _ rfl HOW.out rfl (by omega) ?_; intro g' c' w' hown' hg' hat')
            have R : OwnM w' w.heap.size g' c' (m + 1) (evl S (k + 1)) := by rw [HEV.out]; exact hown'
            have RB := below_app HBE.out hg' HOW.out.le
            have RH := Lib.hid R
            have RBH := Lib.hid RB
            clear hown' hg' hat' R RB
            go_wp2
            go_roundw
            case rel => exact ⟨k + 1, g', c', m + 1, by omega, by go_num, rfl, RH.out, HO1.out, RBH.out⟩
            case measure => simp [intOf]; omega
    · have hkn : k = S.size := by omega
      have hf : fromOk S = true := by rw [HOK.out, ← hkn]; exact HOC.out
      have hv : fromV S = evl S k := by unfold fromV; rw [if_pos hf, hkn]
      have HF := Lib.hid hf
      have HV := Lib.hid hv
      clear hkn hf hv
      go_wp2_with fail
      go_ret2
      unfold CFs
      rw [HV.out, HF.out]
      exact ⟨g, d, ret_slb HOW.out.len, HOW.out.own, HBE.out⟩

set_option maxHeartbeats 1600000 in
theorem spec_codefrom (S : ByteArray) (w : World) (hS : S.size ≤ 1048576) :
    Calls Try.prog 30 #[.string S] w (CFs w S) := by
  have fail0 : ∀ (e0 : fromOk S = false), fromV S = [] := fun e0 => by unfold fromV; rw [e0]; rfl
  have FAIL := Lib.hid fail0
  clear fail0
  have HO := Lib.hid (ownM_empty w w.heap.size (Nat.le_refl _))
  have HB := Lib.hid (below_new w (.cells #[] 3))
  go_enter Try.func30, Try.ntmps30
  go_wp2_with fail
  go_loopw [4, 5] (fun v q wr => ∃ k g d m : Nat, k ≤ S.size + 1 ∧ k % 2 = 0 ∧ q = .int .i64 k ∧ v = .slice (some ⟨g, 0, none⟩) m d ∧ OwnM wr w.heap.size g d m (evl S k) ∧ Below w.heap.size w wr) (fun _ q _ => S.size + 1 - (intOf q).toNat)
  case atStart => exact ⟨0, _, _, _, by omega, rfl, rfl, rfl, HO.out, HB.out⟩
  case round =>
    clear HO HB
    obtain ⟨k, g, d, m, hk, hk2, rfl, rfl, hown, hbel⟩ := hrel
    have hm : m ≤ 1048577 := by
      have := hown.len
      have := evl_length S k
      omega
    have HOW := Lib.hid hown
    have HBE := Lib.hid hbel
    have HK2 := Lib.hid hk2
    clear hown hbel hk2
    by_cases hlt : k < S.size
    · have hev := evl_two S k HK2.out
      rw [bt_get S k hlt] at hev
      have i1 : (k : Int) < (S.size : Int) := by omega
      have hx := (S[k]'hlt).toNat_lt
      have HEV := Lib.hid hev
      clear hev
      go_wp2_with (at_builtin; refine wpList_app1i rfl (.tmp 13) (.tmp 19) rfl _ rfl HOW.out rfl (by omega) ?_; intro g' c' w' hown' hg' hat')
      have R : OwnM w' w.heap.size g' c' (m + 1) (evl S (k + 2)) := by rw [HEV.out]; exact hown'
      have RB := below_app HBE.out hg' HOW.out.le
      have RH := Lib.hid R
      have RBH := Lib.hid RB
      clear hown' hg' hat' R RB
      go_wp2
      go_roundw
      case rel => exact ⟨k + 2, g', c', m + 1, by omega, by have := HK2.out; omega, by go_num, rfl, RH.out, RBH.out⟩
      case measure => simp [intOf]; omega
    · have hevk : evl S k = evl S S.size := by
        by_cases h : k = S.size
        · rw [h]
        · have h1 : k = S.size + 1 := by omega
          have := HK2.out
          rw [h1]
          show (if S.size % 2 = 0 then _ else _) = _
          rw [if_neg (by omega)]
      have HW : Hid (OwnM wr w.heap.size g d m (evl S S.size)) := Lib.hid (by rw [← hevk]; exact HOW.out)
      clear HOW hevk
      have OE := Lib.hid (own_empty wr w.heap.size HBE.out.size)
      have BE := Lib.hid (below_new' HBE.out (.cells #[] 3))
      have hml := HW.out.len
      by_cases h0 : S.size = 0
      · have hf : fromOk S = false := by unfold fromOk; rw [dec_f (by omega)]; rfl
        have hSe : S = ⟨#[]⟩ := ba_ext (by rw [h0]; rfl) (fun j hj => by omega)
        have HF := Lib.hid hf
        subst hSe
        clear h0 hf
        go_wp2_with fail
        go_ret2
        unfold CFs
        rw [FAIL.out HF.out, HF.out]
        exact ⟨_, _, rfl, OE.out, BE.out⟩
      · have hsp := from_spec S h0
        have hne : S ≠ ⟨#[]⟩ := by intro h; rw [h] at h0; exact h0 rfl
        have hcv := spec_codet g 0 d (evl S S.size) wr (by omega) HW.out.lt HW.out.own.at
        rw [← hml] at hcv
        have HCV := Lib.hid hcv
        have HSP := Lib.hid hsp
        have hne' : S.toList ≠ [] := by
          intro h
          apply h0
          have : S.toList.length = S.size := by rw [ByteArray.toList_eq]; exact Array.length_toList
          rw [h] at this
          simpa using this.symm
        have t0' : (S.toList == []) = false := by simpa using hne'
        have t0'' : S.toList.isEmpty = false := by simpa using hne'
        have HML := Lib.hid hml
        clear hcv hsp hne hne' hml
        go_wp2_with fail
        refine HCV.out.mono ?_
        rintro e w2 ⟨rfl, hb2⟩
        have O2 : Hid (OwnM w2 w.heap.size g d m (evl S S.size)) := Lib.hid (OwnV.below HW.out hb2 HW.out.lt)
        have B2 := Lib.hid (below_to HBE.out hb2 HBE.out.size)
        have OE2 := Lib.hid (own_empty w2 w.heap.size B2.out.size)
        have BE2 := Lib.hid (below_new' B2.out (.cells #[] 3))
        clear hb2
        by_cases hf : fromOk S = true
        · have hv : fromV S = evl S S.size := by unfold fromV; rw [if_pos hf]
          rw [HSP.out.2 hf]
          have HF := Lib.hid hf
          have HV := Lib.hid hv
          clear hf hv
          go_wp2_with fail
          go_ret2
          unfold CFs
          rw [HV.out, HF.out]
          exact ⟨g, d, ret_slb O2.out.len, O2.out.own, B2.out⟩
        · have hf' : fromOk S = false := by simpa using hf
          have hne : codeT (evl S S.size) ≠ S := fun h => hf (HSP.out.1 h)
          generalize codeT (evl S S.size) = Y at *
          have HF := Lib.hid hf'
          have hnl : Y.toList ≠ S.toList := fun h => hne (byteArray_ext (by rw [ByteArray.toList_eq, ByteArray.toList_eq] at h; exact h))
          have t3 : (Y.toList == S.toList) = false := by simpa using hnl
          have t4 : (Y.toList != S.toList) = true := by simpa using hnl
          clear hf hf' hne
          go_wp2_with fail
          go_ret2
          unfold CFs
          rw [FAIL.out HF.out, HF.out]
          exact ⟨_, _, rfl, OE2.out, BE2.out⟩

end Go.Proofs.Ytgjgedmciiolmaa
