/-
  Beats of codes; the laws FnCodeText and FnCodeFrom. No condition.
-/
import Derived.Test.YtgjgedmciiolmaaCode4
import Derived.Test.YtgjgedmciiolmaaHelp
namespace Go.Proofs.Ytgjgedmciiolmaa
open Go.RowKit
set_option linter.unusedVariables false

/-- The beats of the first k groups. -/
def smk (zs : List Int) : Nat → Int
  | 0 => 0
  | k + 1 => smk zs k + zs.getD k 0
theorem smk_bd {zs : List Int} (h : zs.all (inB 1 6) = true) (k : Nat) (hk : k ≤ zs.length) : (k : Int) ≤ smk zs k ∧ smk zs k ≤ 6 * (k : Int) := by
  induction k with
  | zero => simp [smk]
  | succ k ih =>
    have h1 := ih (by omega)
    have hx := all_at h (show k < zs.length by omega)
    rw [inB_iff] at hx
    simp only [smk]
    omega
def beatsV (zs : List Int) : Int := if codeB zs = true then smk zs zs.length else -1

set_option maxHeartbeats 400000 in
theorem total_any (zs : List Int) (w : World) (hv : codeB zs = true) :
    Calls Try.prog 44 #[.string (cbs zs)] w fun e w' => e = .returned (.int .i64 (smk zs zs.length)) ∧ w = w' := by
  obtain ⟨hall, hl1, hl5⟩ := codeB_parts hv
  have HALL := Lib.hid hall
  have HGET := Lib.hid (cbs_get zs)
  have HZ := Lib.hid (cbs_size zs)
  have z1 : (cbs zs).size ≤ 5 := by have := cbs_size zs; omega
  clear hall hv
  go_enter Try.func44, Try.ntmps44
  go_wp2_with fail
  go_loop [3, 7] (fun v q => ∃ k : Nat, k ≤ (cbs zs).size ∧ q = .int .i64 k ∧ v = .int .i64 (smk zs k)) (fun _ q => (cbs zs).size - (intOf q).toNat)
  case atStart => exact ⟨0, by omega, rfl, rfl⟩
  case round =>
    obtain ⟨k, hk, rfl, rfl⟩ := hrel
    have hbd := smk_bd HALL.out k (by have := HZ.out; omega)
    by_cases hlt : k < (cbs zs).size
    · have hkz : k < zs.length := by rw [← HZ.out]; exact hlt
      have hx := all_at HALL.out hkz
      have hg := HGET.out k hlt
      have hs : smk zs (k + 1) = smk zs k + zs.getD k 0 := rfl
      generalize zs.getD k 0 = x at *
      rw [inB_iff] at hx
      have hub := ub_toNat hx.1 hx.2
      rw [← hg] at hub
      rw [← hub] at hs
      have hu1 : ((cbs zs)[k]'hlt).toNat ≤ 6 := by omega
      have HS := Lib.hid hs
      have i1 : (k : Int) < ((cbs zs).size : Int) := by omega
      generalize smk zs k = s0 at *
      clear hs hub hg hx
      go_wp2_with fail
      go_round
      case rel => exact ⟨k + 1, by omega, by go_num, by rw [HS.out]⟩
      case measure => simp [intOf]; omega
    · have hkn : k = zs.length := by have := HZ.out; omega
      have HK := Lib.hid hkn
      clear hkn
      go_wp2_with fail
      go_ret
      exact ⟨ret_int (by rw [HK.out]), rfl⟩

set_option maxHeartbeats 400000 in
theorem impl_beats (b off c : Nat) (zs : List Int) (w : World) (hn : zs.length ≤ 1048576) (hb : b < w.heap.size) (hc : AtInts w b off zs) :
    Calls Try.prog 22 #[.slice (some ⟨b, off, none⟩) zs.length c] w fun e w' => e = .returned (.int .i64 (beatsV zs)) ∧ Below w.heap.size w w' := by
  have hco := codeOf_any b off c zs w hn hb hc
  by_cases hv : codeB zs = true
  · have e2 : codeV zs = cbs zs := by unfold codeV; rw [if_pos hv]
    have e3 : beatsV zs = smk zs zs.length := by unfold beatsV; rw [if_pos hv]
    rw [hv, e2] at hco
    rw [e3]
    have HCO := Lib.hid hco
    have HV := Lib.hid hv
    clear hco hv e2 e3 hc
    go_enter Try.func22, Try.ntmps22
    go_wp2_with fail
    refine HCO.out.mono ?_
    rintro e w1 ⟨rfl, hb1⟩
    have B1 := Lib.hid hb1
    clear hb1
    go_wp2_with fail
    refine (total_any zs _ HV.out).mono ?_
    rintro e w' ⟨rfl, rfl⟩
    go_wp2_with fail
    go_ret
    exact ⟨rfl, B1.out⟩
  · have hv' : codeB zs = false := by simpa using hv
    have e1 : beatsV zs = -1 := by unfold beatsV; rw [if_neg hv]
    rw [hv'] at hco
    rw [e1]
    have HCO := Lib.hid hco
    clear hco hv hv' e1 hc
    go_enter Try.func22, Try.ntmps22
    go_wp2_with fail
    refine HCO.out.mono ?_
    rintro e w1 ⟨rfl, hb1⟩
    have B1 := Lib.hid hb1
    clear hb1
    go_wp2_with fail
    go_ret
    exact ⟨rfl, B1.out⟩

/-- What a drawing function of a list leaves. -/
def DrawL (w : World) (mx : Nat) (lo hi : Int) (e : Ending) (w' : World) : Prop := ∃ (zs : List Int) (g c : Nat), e = .returned (.slice (some ⟨g, 0, none⟩) zs.length c) ∧ zs.length ≤ mx ∧ (∀ z ∈ zs, lo ≤ z ∧ z ≤ hi) ∧ zs.length ≤ c ∧ c ≤ 9223372036854775807 ∧ AtInts w' g 0 zs ∧ w.heap.size ≤ g ∧ g < w'.heap.size ∧ Below w.heap.size w w'
set_option maxHeartbeats 400000 in
theorem draw_codetext (A : Option Addr) (c m : Nat) (w : World) (hmc : m ≤ c) (hc : c ≤ 9223372036854775807) (hr : ByteRow w w.heap.size A m) :
    Calls Try.prog 23 #[.slice A m c] w (DrawL w 6 (-1) 7) := by
  have HO := Lib.hid (open_any w.heap.size A m c w (Nat.le_refl _) hmc hc hr)
  clear hr
  go_enter Try.func23, Try.ntmps23
  go_wp2_with fail
  refine HO.out.mono ?_
  rintro e w1 ⟨rfl, hr1, hb1⟩
  have HR1 := Lib.hid hr1
  have HB1 := Lib.hid hb1
  clear hr1 hb1 HO
  go_wp2_with fail
  refine (l91Code_any w.heap.size w.heap.size 0 _ (by omega) HR1.out).mono ?_
  rintro e w2 ⟨zs, g, d, p', rfl, hl, hin, hlc, hc2, hat, hge, hlt, _, _, hg2⟩
  have HA := Lib.hid hat
  have HIN := Lib.hid hin
  have HB2 := Lib.hid (below_app HB1.out hg2 (Nat.le_refl _))
  have HGE := Lib.hid (Nat.le_trans HB1.out.size hge)
  clear hat hin hg2 hge
  go_wp2_with fail
  go_ret
  exact ⟨zs, g, d, rfl, hl, HIN.out, hlc, hc2, HA.out, HGE.out, hlt, HB2.out⟩

set_option maxHeartbeats 3200000 in
theorem law_CodeText (A : Option Addr) (c : Nat) (ys : List Int) (w : World) (hq : ArgBytes w A c ys) :
    Calls Try.prog 6 #[.slice A ys.length c] w fun e w' => e = .returned (.bool true) ∧ Below w.heap.size w w' := by
  obtain ⟨hr, hlc, hc⟩ := hq
  by_cases hbig : 1048576 < ys.length
  · have t0 := dec_t (show (1048576 : Int) < (ys.length : Int) by omega)
    go_enter Try.func6, Try.ntmps6
    go_wp2_with fail
    go_ret
    exact ⟨rfl, Below.refl _ _⟩
  have t0 := dec_f (show ¬ (1048576 : Int) < (ys.length : Int) by omega)
  have HD := Lib.hid (draw_codetext A c ys.length w hlc hc hr)
  clear hr
  go_enter Try.func6, Try.ntmps6
  go_wp2_with fail
  refine HD.out.mono ?_
  rintro e w1 ⟨zs, g, d, rfl, hl6, hin, hld, hd, hat, hge, hlt, hb1⟩
  have A1 := Lib.hid hat
  have B1 := Lib.hid hb1
  have L1 := Lib.hid hlt
  clear hat hb1 hin hlt HD
  go_wp2_with fail
  refine (impl_codet g 0 d zs _ (by omega) L1.out A1.out).mono ?_
  rintro e w2 ⟨rfl, hb2⟩
  have A2 := Lib.hid (A1.out.below hb2 L1.out)
  have L2 := Lib.hid (Nat.lt_of_lt_of_le L1.out hb2.size)
  have B2 := Lib.hid (below_to B1.out hb2 B1.out.size)
  clear hb2 A1 B1 L1
  go_wp2_with fail
  refine (spec_codet g 0 d zs _ (by omega) L2.out A2.out).mono ?_
  rintro e w3 ⟨rfl, hb3⟩
  have A3 := Lib.hid (A2.out.below hb3 L2.out)
  have L3 := Lib.hid (Nat.lt_of_lt_of_le L2.out hb3.size)
  have B3 := Lib.hid (below_to B2.out hb3 B2.out.size)
  clear hb3 A2 B2 L2
  by_cases hv : codeB zs = true
  · obtain ⟨hall, hl1, hl5⟩ := codeB_parts hv
    have hsz := codeT_size hv
    have hbt := codeT_bt hv
    obtain ⟨hf1, hf2⟩ := codeT_from hv
    have hbv : beatsV zs = smk zs zs.length := by unfold beatsV; rw [if_pos hv]
    have hcf := fun w => impl_codefrom (codeT zs) w (by omega)
    generalize codeT zs = S at *
    have HALL := Lib.hid hall
    have HBT := Lib.hid hbt
    have HCF := Lib.hid hcf
    have HF1 := Lib.hid hf1
    have HF2 := Lib.hid hf2
    have HBV := Lib.hid hbv
    have hs9 : S.size ≤ 9 := by omega
    have hs1 : 1 ≤ S.size := by omega
    have HSZ := Lib.hid hsz
    have hne : S.toList ≠ [] := by
      intro h
      have : S.toList.length = S.size := by rw [ByteArray.toList_eq]; exact Array.length_toList
      rw [h] at this
      simp at this
      omega
    have te : S.toList.isEmpty = false := by simpa using hne
    clear hall hbt hcf hf1 hf2 hbv hsz hv
    go_wp2_with fail
    refine (HCF.out _).mono ?_
    rintro e w4 ⟨g4, c4, rfl, ho4, hb4⟩
    rw [HF1.out, HF2.out]
    rw [HF2.out] at ho4
    have O4 := Lib.hid ho4
    have A4 := Lib.hid (A3.out.below hb4 L3.out)
    have L4 := Lib.hid (Nat.lt_of_lt_of_le L3.out hb4.size)
    have B4 := Lib.hid (below_to B3.out hb4 B3.out.size)
    clear hb4 ho4 A3 B3 L3
    go_wp2_with fail
    go_loop [8, 9] (fun v q => ∃ k : Nat, k ≤ zs.length ∧ q = .int .i64 (2 * (k : Int)) ∧ v = .int .i64 (smk zs k)) (fun _ q => 2 * zs.length - (intOf q).toNat)
    case atStart => exact ⟨0, by omega, rfl, rfl⟩
    case round =>
      obtain ⟨k, hk, rfl, rfl⟩ := hrel
      have hbd := smk_bd HALL.out k hk
      by_cases hlt : k < zs.length
      · have h2 : 2 * k < S.size := by have := HSZ.out; omega
        have hg := HBT.out (2 * k) (by omega)
        rw [if_pos (by omega), show 2 * k / 2 = k by omega, bt_get S (2 * k) h2] at hg
        have hx := all_at HALL.out hlt
        have hs : smk zs (k + 1) = smk zs k + zs.getD k 0 := rfl
        generalize zs.getD k 0 = x at *
        rw [inB_iff] at hx
        have hdn := dgt_toNat hx.1 hx.2
        rw [← hg] at hdn
        have hdn' : ((S[2 * k]'h2).toNat : Int) = 48 + x := by omega
        have HDN := Lib.hid hdn'
        have hd1 : 49 ≤ (S[2 * k]'h2).toNat := by omega
        have hd2 : (S[2 * k]'h2).toNat ≤ 54 := by omega
        have HS := Lib.hid hs
        have i1 : 2 * (k : Int) < (S.size : Int) := by omega
        have i2 : (2 * (k : Int)).toNat = 2 * k := by omega
        have i3 : (0 : Int) ≤ 2 * (k : Int) := by omega
        generalize smk zs k = s0 at *
        clear hs hdn hg hdn' hx
        go_wp2_with fail
        go_round
        case rel =>
          refine ⟨k + 1, by omega, by go_num, ?_⟩
          rw [HS.out]
          have := HDN.out
          congr 1
          omega
        case measure => simp [intOf]; omega
      · obtain rfl : k = zs.length := by omega
        have h2 : ¬ 2 * zs.length < S.size := by have := HSZ.out; omega
        have t1 := dec_f (show ¬ 2 * (zs.length : Int) < (S.size : Int) by omega)
        generalize hsm : smk zs zs.length = s0 at *
        have HBV2 : Hid (beatsV zs = s0) := Lib.hid (by rw [HBV.out])
        have t2 := beq_t (show (S.size : Int) = 2 * (zs.length : Int) - 1 by have := HSZ.out; omega)
        clear hsm hbd HBV
        go_wp2_with fail
        refine (sameInts_any _ 0 _ _ 0 _ zs zs _ (by omega) (by omega) O4.out.at A4.out).mono ?_
        rintro e w5 ⟨rfl, n5, rfl⟩
        rw [dec_t (show zs = zs from rfl)]
        have A5 : Hid (AtInts (w4.drewN n5) g 0 zs) := Lib.hid (A4.out.keep rfl)
        have B5 := Lib.hid (below_drewN B4.out n5)
        have L5 : Hid (g < (w4.drewN n5).heap.size) := Lib.hid L4.out
        generalize w4.drewN n5 = w5 at *
        go_wp2_with fail
        refine (impl_beats g 0 d zs _ (by omega) L5.out A5.out).mono ?_
        rintro e w6 ⟨rfl, hb6⟩
        have B6 := Lib.hid (below_to B5.out hb6 B5.out.size)
        clear hb6
        rw [HBV2.out]
        go_wp2_with fail
        go_ret
        exact ⟨rfl, B6.out⟩
  · have hT : codeT zs = ⟨#[]⟩ := by unfold codeT; rw [if_neg hv]
    rw [hT]
    clear hv hT
    go_wp2_with fail
    go_ret
    exact ⟨rfl, B3.out⟩

end Go.Proofs.Ytgjgedmciiolmaa
