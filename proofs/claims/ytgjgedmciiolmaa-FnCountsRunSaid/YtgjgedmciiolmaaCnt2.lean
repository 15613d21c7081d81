/-
  The law FnCountsClear. No condition.
-/
import Derived.Test.YtgjgedmciiolmaaCnt1
namespace Go.Proofs.Ytgjgedmciiolmaa
open Go.RowKit
set_option linter.unusedVariables false

theorem hasInt_q (b off c : Nat) (zs : List Int) (x : Int) (w : World) (hn : zs.length ≤ 9223372036854775807) (ha : AtInts w b off zs) :
    Calls Try.prog 17 #[.slice (some ⟨b, off, none⟩) zs.length c, .int .i64 x] w fun e w' => e = .returned (.bool (decide (x ∈ zs))) ∧ w' = w := (hasInt_any b off c zs x w hn ha).mono fun _ _ h => ⟨h.1, h.2.symm⟩
theorem rem_nat {a b : Nat} (hb : 0 < b) : Int.tmod (a : Int) (b : Int) = ((a % b : Nat) : Int) ∧ (a : Int) % (b : Int) = ((a % b : Nat) : Int) := by
  constructor
  · rw [Int.tmod_eq_emod_of_nonneg (by omega)]; rfl
  · rfl

set_option maxHeartbeats 3200000 in
theorem law_CountsClear (A : Option Addr) (c : Nat) (ys : List Int) (A' : Option Addr) (c' : Nat) (ys' : List Int) (w : World) (hq : ArgBytes w A c ys) (hq' : ArgBytes w A' c' ys') :
    Calls Try.prog 4 #[.slice A ys.length c, .slice A' ys'.length c'] w fun e w' => e = .returned (.bool true) ∧ Below w.heap.size w w' := by
  obtain ⟨hr, hlc, hc⟩ := hq
  obtain ⟨_, hlc', hc'⟩ := hq'
  by_cases hbig : 1048576 < ys.length
  · have t0 := dec_t (show (1048576 : Int) < (ys.length : Int) by omega)
    go_enter Try.func4, Try.ntmps4
    go_wp2_with fail
    go_ret
    exact ⟨rfl, Below.refl _ _⟩
  have t0 := dec_f (show ¬ (1048576 : Int) < (ys.length : Int) by omega)
  by_cases hbig' : 1048576 < ys'.length
  · have t0' := dec_t (show (1048576 : Int) < (ys'.length : Int) by omega)
    go_enter Try.func4, Try.ntmps4
    go_wp2_with fail
    go_ret
    exact ⟨rfl, Below.refl _ _⟩
  have t0' := dec_f (show ¬ (1048576 : Int) < (ys'.length : Int) by omega)
  have HD := Lib.hid (draw_cclear A c ys.length w hlc hc hr)
  clear hr
  go_enter Try.func4, Try.ntmps4
  go_wp2_with fail
  refine HD.out.mono ?_
  rintro e w1 ⟨zs, g, d, rfl, hl4, hin, hld, hd, hat, hge, hlt, hb1⟩
  have A1 := Lib.hid hat
  have B1 := Lib.hid hb1
  have L1 := Lib.hid hlt
  clear hat hb1 hin hlt HD
  go_wp2_with fail
  refine (impl_clear g 0 d zs _ (by omega) A1.out L1.out).mono ?_
  rintro e w2 ⟨g2, c2, rfl, ho2, hb2⟩
  have O2 := Lib.hid ho2
  have A2 := Lib.hid (A1.out.below hb2 L1.out)
  have L2 := Lib.hid (Nat.lt_of_lt_of_le L1.out hb2.size)
  have B2 := Lib.hid (below_to B1.out hb2 B1.out.size)
  clear ho2 hb2 A1 B1 L1
  go_wp2_with fail
  refine (spec_clear g 0 d zs _ (by omega) A2.out L2.out).mono ?_
  rintro e w3 ⟨g3, c3, rfl, ho3, hb3⟩
  have O3 := Lib.hid ho3
  have P3 := Lib.hid (O2.out.below hb3 O2.out.lt)
  have A3 := Lib.hid (A2.out.below hb3 L2.out)
  have L3 := Lib.hid (Nat.lt_of_lt_of_le L2.out hb3.size)
  have B3 := Lib.hid (below_to B2.out hb3 B2.out.size)
  clear ho3 hb3 A2 B2 L2 O2
  have hcl : (clearV zs).length ≤ 4 := by
    unfold clearV
    split
    · have := clr_length zs zs.length; omega
    · simp
  by_cases hl0 : (clearV zs).length = 0
  · have hnil : clearV zs = [] := List.eq_nil_of_length_eq_zero hl0
    rw [hnil] at P3 O3 ⊢
    clear hl0 hnil hcl
    go_wp2_with fail
    refine (sameInts_any _ 0 _ _ 0 _ [] [] _ (by simp) (by simp) P3.out.at O3.out.at).mono ?_
    rintro e w4 ⟨rfl, n4, rfl⟩
    rw [dec_t (show ([] : List Int) = [] from rfl)]
    have A4 : Hid (AtInts (w3.drewN n4) g2 0 []) := Lib.hid (P3.out.at.keep rfl)
    have A4' : Hid (AtInts (w3.drewN n4) g3 0 []) := Lib.hid (O3.out.at.keep rfl)
    have B4 := Lib.hid (below_drewN B3.out n4)
    generalize w3.drewN n4 = w4 at *
    go_wp2_with fail
    refine (sameInts_any _ 0 _ _ 0 _ [] [] _ (by simp) (by simp) A4.out A4'.out).mono ?_
    rintro e w5 ⟨rfl, n5, rfl⟩
    rw [dec_t (show ([] : List Int) = [] from rfl)]
    go_wp2_with fail
    go_ret
    exact ⟨rfl, below_drewN B4.out n5⟩
  · have hv : cvB zs = true := by
      by_cases hv : cvB zs = true
      · exact hv
      · exact absurd (by unfold clearV; rw [if_neg hv]; rfl) hl0
    have hclr : clearV zs = clr zs zs.length := by unfold clearV; rw [if_pos hv]
    have hmem := fun i => mem_clr zs i zs.length
    have hnat := clr_nat zs zs.length
    rw [← hclr] at hmem hnat
    have t1 := beq_f (show ((clearV zs).length : Int) ≠ 0 by omega)
    have t1' : ((clearV zs).length == 0) = false := by simpa using hl0
    generalize clearV zs = L at *
    have hL0 : 0 < L.length := by omega
    have HV := Lib.hid hv
    have HMEM := Lib.hid hmem
    have HNAT := Lib.hid hnat
    clear hv hclr hmem hnat hl0
    go_wp2_with fail
    refine (sameInts_any _ 0 _ _ 0 _ L L _ (by omega) (by omega) P3.out.at O3.out.at).mono ?_
    rintro e w4 ⟨rfl, n4, rfl⟩
    rw [dec_t (show L = L from rfl)]
    have P4 : Hid (AtInts (w3.drewN n4) g2 0 L) := Lib.hid (P3.out.at.keep rfl)
    have PL4 : Hid (g2 < (w3.drewN n4).heap.size) := Lib.hid P3.out.lt
    have A4 : Hid (AtInts (w3.drewN n4) g 0 zs) := Lib.hid (A3.out.keep rfl)
    have L4 : Hid (g < (w3.drewN n4).heap.size) := Lib.hid L3.out
    have B4 := Lib.hid (below_drewN B3.out n4)
    clear A3 L3 B3 P3 O3
    generalize w3.drewN n4 = w4 at *
    go_wp2_with fail
    go_loopw [8] (fun q wr => ∃ k : Nat, k ≤ zs.length ∧ q = .int .i64 k ∧ AtInts wr g2 0 L ∧ g2 < wr.heap.size ∧ AtInts wr g 0 zs ∧ g < wr.heap.size ∧ Below w.heap.size w wr) (fun q _ => zs.length - (intOf q).toNat)
    case atStart => exact ⟨0, by omega, rfl, P4.out, PL4.out, A4.out, L4.out, B4.out⟩
    case round =>
      clear P4 PL4 A4 L4 B4
      obtain ⟨k, hk, rfl, hp, hpl, ha, hal, hbel⟩ := hrel
      have P5 := Lib.hid hp
      have PL5 := Lib.hid hpl
      have A5 := Lib.hid ha
      have L5 := Lib.hid hal
      have B5 := Lib.hid hbel
      clear hp hpl ha hal hbel
      by_cases hlt : k < zs.length
      · have hh : ∀ n, Calls Try.prog 17 #[.slice (some ⟨g2, 0, none⟩) L.length c2, .int .i64 k] (wr.drewN n) fun e w' => e = .returned (.bool (decide ((k : Int) ∈ L))) ∧ w' = wr.drewN n := fun n => hasInt_q g2 0 c2 L k _ (by omega) (P5.out.keep rfl)
        have hdec : decide ((k : Int) ∈ L) = (zs.getD k 0 == 0) := by
          rw [Bool.eq_iff_iff, decide_eq_true_eq, HMEM.out k, beq_iff_eq]
          exact ⟨fun h => h.2, fun h => ⟨hlt, h⟩⟩
        rw [hdec] at hh
        have hck := A5.out.at k hlt
        rw [Nat.zero_add] at hck
        generalize zs.getD k 0 = x at *
        have i1 : (k : Int) < (zs.length : Int) := by omega
        have HH := Lib.hid hh
        clear hh hdec
        by_cases hx : x = 0
        · subst hx
          have hh2 := HH.out
          rw [show ((0 : Int) == 0) = true from rfl] at hh2
          have HH2 := Lib.hid hh2
          clear HH hh2
          go_wp2_with fail
          go_quiet (first | (go_at_call 17; exact Calls.quiet_of_same (HH2.out _)))
          go_wp2_with fail
          go_roundw
          case rel => exact ⟨k + 1, by omega, by go_num, P5.out.keep rfl, PL5.out, A5.out.keep rfl, L5.out, below_drewN B5.out _⟩
          case measure => simp [intOf]; omega
        · have hh2 := HH.out
          have hxf := beq_f hx
          rw [hxf] at hh2
          have HH2 := Lib.hid hh2
          clear HH hh2
          go_wp2_with fail
          go_quiet (first | (go_at_call 17; exact Calls.quiet_of_same (HH2.out _)))
          go_wp2_with fail
          go_roundw
          case rel => exact ⟨k + 1, by omega, by go_num, P5.out.keep rfl, PL5.out, A5.out.keep rfl, L5.out, below_drewN B5.out _⟩
          case measure => simp [intOf]; omega
      · have hil : ys'.length % L.length < L.length := Nat.mod_lt _ hL0
        obtain ⟨r1, r2⟩ := rem_nat (a := ys'.length) hL0
        generalize ys'.length % L.length = i at *
        have hci := P5.out.at i hil
        rw [Nat.zero_add] at hci
        have hLm : L.getD i 0 ∈ L := by simp [List.getD, hil]
        obtain ⟨kk, hkk⟩ := HNAT.out _ hLm
        rw [hkk] at hci hLm
        obtain ⟨hkl, hk0⟩ := (HMEM.out kk).1 hLm
        have hL00 : ¬ (L.length : Int) = 0 := by omega
        have ii : (i : Int) < (L.length : Int) := by omega
        have hok := okP_clear HV.out hkl hk0
        have hnc := not_clear hkl hk0
        have hrv : runV zs [(kk : Int)] = pulV zs kk := runV_one zs kk
        have hpu := fun w hc hb => impl_pulse g 0 d zs (kk : Int) w (by omega) (by omega) hc hb
        rw [hrv] at hpu
        have hplen := plL_length zs (kk : Int)
        have hck := A5.out.at (kk - 1) (by omega)
        rw [Nat.zero_add] at hck
        by_cases hpos : kk = 0
        · subst hpos
          have hokt : okP zs ((0 : Nat) : Int) = true := by rw [hok]; rfl
          rw [pulV_ok HV.out hokt] at hpu
          have HPU := Lib.hid hpu
          have HNC := Lib.hid hnc
          have HPL := Lib.hid hplen
          clear hpu hnc hok hokt hrv hck hkk hplen hLm
          go_wp2_with fail
          refine (HPU.out _ A5.out L5.out).mono ?_
          rintro e w6 ⟨g6, c6, rfl, ho6, hb6⟩
          have O6 := Lib.hid ho6
          have B6 := Lib.hid (below_to B5.out hb6 B5.out.size)
          clear ho6 hb6
          go_wp2_with fail
          refine (impl_clear g6 0 c6 (plL zs ((0 : Nat) : Int)) _ (by rw [HPL.out]; omega) O6.out.at O6.out.lt).mono ?_
          rintro e w7 ⟨g7, c7, rfl, ho7, hb7⟩
          have O7 := Lib.hid ho7
          have B7 := Lib.hid (below_to B6.out hb7 B6.out.size)
          have hcl7 : (clearV (plL zs ((0 : Nat) : Int))).length ≤ 8 := by
            unfold clearV
            split
            · have := clr_length (plL zs ((0 : Nat) : Int)) (plL zs ((0 : Nat) : Int)).length
              have := HPL.out
              omega
            · simp
          clear ho7 hb7
          go_wp2_with fail
          refine (hasInt_any _ 0 _ (clearV (plL zs ((0 : Nat) : Int))) 0 _ (by omega) O7.out.at).mono ?_
          rintro e w' ⟨rfl, rfl⟩
          rw [dec_f (show ¬ ((0 : Int) ∈ clearV (plL zs ((0 : Nat) : Int))) from HNC.out)]
          go_wp2_with fail
          go_ret
          exact ⟨rfl, B7.out⟩
        · have t5 := beq_f (show (kk : Int) ≠ 0 by omega)
          have t5' : (kk == 0) = false := by simpa using hpos
          have t6 := dec_t (show (0 : Int) < (kk : Int) by omega)
          have t6' := dec_t (show 0 < kk by omega)
          have ik1 : (0 : Int) ≤ (kk : Int) - 1 := by omega
          have ik2 : (kk : Int) - 1 < (zs.length : Int) := by omega
          have ik3 : ((kk : Int) - 1).toNat = kk - 1 := by omega
          by_cases hz1 : 0 < zs.getD (kk - 1) 0
          · have hokt : okP zs (kk : Int) = true := by rw [hok, dec_t hz1, Bool.or_true]
            rw [pulV_ok HV.out hokt] at hpu
            generalize zs.getD (kk - 1) 0 = z1 at *
            have t7 := dec_t hz1
            have HPU := Lib.hid hpu
            have HNC := Lib.hid hnc
            have HPL := Lib.hid hplen
            clear hpu hnc hok hokt hrv hkk hplen hLm
            go_wp2_with fail
            refine (HPU.out _ A5.out L5.out).mono ?_
            rintro e w6 ⟨g6, c6, rfl, ho6, hb6⟩
            have O6 := Lib.hid ho6
            have B6 := Lib.hid (below_to B5.out hb6 B5.out.size)
            have hck6 : w6.cell? ⟨g, kk - 1, none⟩ = some (.int .i64 z1) := (hb6.cell (p := ⟨g, kk - 1, none⟩) L5.out).trans hck
            clear ho6 hb6
            go_wp2_with fail
            refine (impl_clear g6 0 c6 (plL zs (kk : Int)) _ (by rw [HPL.out]; omega) O6.out.at O6.out.lt).mono ?_
            rintro e w7 ⟨g7, c7, rfl, ho7, hb7⟩
            have O7 := Lib.hid ho7
            have B7 := Lib.hid (below_to B6.out hb7 B6.out.size)
            have hcl7 : (clearV (plL zs (kk : Int))).length ≤ 8 := by
              unfold clearV
              split
              · have := clr_length (plL zs (kk : Int)) (plL zs (kk : Int)).length
                have := HPL.out
                omega
              · simp
            clear ho7 hb7
            go_wp2_with fail
            refine (hasInt_any _ 0 _ (clearV (plL zs (kk : Int))) kk _ (by omega) O7.out.at).mono ?_
            rintro e w' ⟨rfl, rfl⟩
            rw [dec_f HNC.out]
            go_wp2_with fail
            go_ret
            exact ⟨rfl, B7.out⟩
          · have hokf : okP zs (kk : Int) = false := by rw [hok, dec_f hz1, dec_f hpos]; rfl
            rw [pulV_no hokf] at hpu
            generalize zs.getD (kk - 1) 0 = z1 at *
            have t7 := dec_f hz1
            have HPU := Lib.hid hpu
            clear hpu hnc hok hokf hrv hkk hplen hLm
            go_wp2_with fail
            refine (HPU.out _ A5.out L5.out).mono ?_
            rintro e w6 ⟨g6, c6, rfl, ho6, hb6⟩
            have B6 := Lib.hid (below_to B5.out hb6 B5.out.size)
            have hck6 : w6.cell? ⟨g, kk - 1, none⟩ = some (.int .i64 z1) := (hb6.cell (p := ⟨g, kk - 1, none⟩) L5.out).trans hck
            clear ho6 hb6
            go_wp2_with fail
            go_ret
            exact ⟨rfl, B6.out⟩

end Go.Proofs.Ytgjgedmciiolmaa
