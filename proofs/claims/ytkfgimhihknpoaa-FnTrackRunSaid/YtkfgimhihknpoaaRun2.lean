/-
  TrackRun of the program: what it hands back. No condition.
-/
import Derived.Test.YtkfgimhihknpoaaRun
namespace Go.Proofs.Ytkfgimhihknpoaa
open Go.RowKit
set_option linter.unusedVariables false

/-- The length in a slot that holds a slice. -/
def lenOf : Value → Nat | .slice _ n _ => n | _ => 0
set_option maxHeartbeats 3200000 in
theorem impl_trun (n L : Int) (w : World) : Calls Try.prog 29 #[.int .i64 n, .int .i64 L] w (NewStrsB w (trV n L) (trOk n L)) := by
  by_cases h1 : 1 ≤ n
  · have t1 := dec_f (show ¬ n < 1 by omega)
    by_cases h2 : n ≤ 8
    · have t2 := dec_f (show ¬ 8 < n by omega)
      by_cases h3 : 1 ≤ L
      · have t3 := dec_f (show ¬ L < 1 by omega)
        by_cases h4 : L ≤ n
        · have hok : trOk n L = true := by simp [trOk, inB, h1, h2, h3, h4]
          have hv : trV n L = trl n.toNat L.toNat (2 * n.toNat) := by simp [trV, hok]
          rw [hok, hv]; clear hok hv
          obtain ⟨M, rfl⟩ := Int.eq_ofNat_of_zero_le (show 0 ≤ n by omega)
          obtain ⟨K, rfl⟩ := Int.eq_ofNat_of_zero_le (show 0 ≤ L by omega)
          rw [Int.toNat_natCast, Int.toNat_natCast]
          have t4 := dec_f (show ¬ M < K by omega)
          have b1 : 1 ≤ M := by omega
          have b2 : M ≤ 8 := by omega
          have b3 : 1 ≤ K := by omega
          have b4 : K ≤ M := by omega
          clear h1 h2 h3 h4
          have hinv := stp_inv M K b3
          have HINV := Lib.hid hinv
          clear hinv
          have htx := fun w => text_any 0 M w (by omega) b2
          have hp8 := pow8 b2
          have HTX := Lib.hid htx
          have HP8 := Lib.hid hp8
          have HKN := Lib.hid (Blk.new w 54 #[.int .u16 (0 : Nat), .int .i64 M])
          clear htx hp8
          go_enter Try.func29, Try.ntmps29
          go_wp2_with (go_at_call 44; refine (HTX.out _).mono ?_; rintro e w1 ⟨rfl, hb1⟩; have K1 := Lib.hid (HKN.out.below hb1 HKN.out.lt); have B1 := Lib.hid (below_to (below_new w _) hb1 (by simp)); clear hb1)
          have O1 : Hid (OwnSM (w1.alloc (.cells #[.string (T 0 M)] 9)) w.heap.size w1.heap.size 1 1 (trl M K 0)) := ownSM_one w1 _ B1.out.size _
          have L1 := Lib.hid (show w.heap.size < w1.heap.size from K1.out.lt)
          go_loopw [7, 8] (fun v q wr => ∃ m g d c : Nat, m ≤ 2 * M ∧ q = .int .i64 (stp M K m).2 ∧ v = .slice (some ⟨g, 0, none⟩) c d ∧ OwnSM wr w.heap.size g d c (trl M K m) ∧ Blk wr w.heap.size 54 #[.int .u16 (seg (stp M K m).1 (stp M K m).2), .int .i64 M] ∧ Below w.heap.size w wr ∧ w.heap.size < g) (fun v _ _ => 2 * M + 1 - lenOf v)
          case atStart => exact ⟨0, w1.heap.size, 1, 1, by omega, rfl, rfl, O1.out, K1.out.alloc _, below_new' B1.out _, L1.out⟩
          case round =>
            clear O1 L1 K1 B1 HKN HTX
            obtain ⟨m, g, d, c, hm, rfl, rfl, hown, hblk, hbel, hgl⟩ := hrel
            have hi := HINV.out m hm
            have hnext : stp M K (m + 1) = if (stp M K m).2 < M ∧ (stp M K m).2 - (stp M K m).1 ≤ K then ((stp M K m).1, (stp M K m).2 + 1) else ((stp M K m).1 + 1, (stp M K m).2) := rfl
            have hlen := hown.len
            rw [trl_length] at hlen
            have hc : c ≤ 20 := by omega
            have hts := trl_succ M K m
            have htT : trT M K (m + 1) = T (seg (stp M K (m + 1)).1 (stp M K (m + 1)).2) M := rfl
            obtain ⟨A, hA⟩ : ∃ A, (stp M K m).1 = A := ⟨_, rfl⟩
            obtain ⟨B, hB⟩ : ∃ B, (stp M K m).2 = B := ⟨_, rfl⟩
            rw [hA, hB] at hi hnext hblk
            rw [hB]
            have i1 := hi.1
            have i2 := hi.2.1
            have HSUM := Lib.hid hi.2.2
            have HLEN := Lib.hid hlen
            have c0 := hblk.cell 0
            have c1 := hblk.cell 1
            have hs16 : seg A B < 65536 := by have := seg_lt' A B M i2; have := HP8.out; omega
            have hcn := fun w => count_any (seg A B) M w hs16 b2
            rw [cnt_seg A B i1 M, show min B M - min A M = B - A by omega] at hcn
            have hoc := fun w => occ_any (seg A B) M (M - 1) w hs16 (by omega)
            rw [seg_bit A B (M - 1) i1] at hoc
            have HCN := Lib.hid hcn
            have HOCC := Lib.hid hoc
            have B2 := Lib.hid hbel
            have K2 := Lib.hid hblk
            have O2 := Lib.hid hown
            clear hi hlen hown hbel hblk hcn hoc hA hB
            by_cases hBM : B < M
            · have t5 := dec_t hBM
              by_cases hle : B - A ≤ K
              · have t6 := dec_f (show ¬ K < B - A by omega)
                have t7 := dec_f (show ¬ (A ≤ M - 1 ∧ M - 1 < B) by omega)
                have hchg := fun w => chg_any (seg A B) M B w hs16 (by omega)
                rw [seg_head A B i1] at hchg
                have hf16 : seg A (B + 1) < 65536 := by have := seg_lt' A (B + 1) M (by omega); have := HP8.out; omega
                have htx := fun w => text_any (seg A (B + 1)) M w hf16 b2
                rw [if_pos (by omega)] at hnext
                rw [hnext] at htT
                simp only at htT
                rw [htT] at hts
                have HCH := Lib.hid hchg
                have HTX2 := Lib.hid htx
                have HTS := Lib.hid hts
                have HN := Lib.hid hnext
                clear hchg htx hts hnext htT
                go_wp2_with fail
                refine (HCN.out _).mono ?_
                rintro e w3 ⟨rfl, hb3⟩
                have B3 := Lib.hid (below_to B2.out hb3 B2.out.size)
                have K3 := Lib.hid (K2.out.below hb3 K2.out.lt)
                have O3 : Hid (OwnSM w3 w.heap.size g d c (trl M K m)) := OwnV.below O2.out hb3 O2.out.lt
                clear hb3 c0 c1 B2 K2 O2
                have c0 := K3.out.cell 0
                have c1 := K3.out.cell 1
                go_wp2_with fail
                have eM : ((M : Int) - 1) = ((M - 1 : Nat) : Int) := by omega
                rw [eM]
                clear eM
                refine (HOCC.out _).mono ?_
                rintro e w4 ⟨rfl, hb4⟩
                have B4 := Lib.hid (below_to B3.out hb4 B3.out.size)
                have K4 := Lib.hid (K3.out.below hb4 K3.out.lt)
                have O4 : Hid (OwnSM w4 w.heap.size g d c (trl M K m)) := OwnV.below O3.out hb4 O3.out.lt
                clear hb4 c0 c1 B3 K3 O3
                have c0 := K4.out.cell 0
                have c1 := K4.out.cell 1
                go_wp2_with fail
                refine (HCH.out _).mono ?_
                rintro e w5 ⟨rfl, hb5⟩
                have B5 := Lib.hid (below_to B4.out hb5 B4.out.size)
                have K5 := Lib.hid (K4.out.below hb5 K4.out.lt)
                have O5 : Hid (OwnSM w5 w.heap.size g d c (trl M K m)) := OwnV.below O4.out hb5 O4.out.lt
                clear hb5 c0 c1 B4 K4 O4
                have c0 := K5.out.cell 0
                have c1 := K5.out.cell 1
                have f0 := K5.out.frozen 0
                have f1 := K5.out.frozen 1
                have B6 : Hid (Below w.heap.size w ((w5.setCell ⟨w.heap.size, 0, none⟩ (.int .u16 (seg A (B + 1)))).setCell ⟨w.heap.size, 1, none⟩ (.int .i64 M))) := (B5.out.setCell (by simp) _).setCell (by simp) _
                have K6 : Hid (Blk ((w5.setCell ⟨w.heap.size, 0, none⟩ (.int .u16 (seg A (B + 1)))).setCell ⟨w.heap.size, 1, none⟩ (.int .i64 M)) w.heap.size 54 #[.int .u16 (seg A (B + 1)), .int .i64 M]) := (K5.out.set_ 0 _).set_ 1 _
                have O6 : Hid (OwnSM ((w5.setCell ⟨w.heap.size, 0, none⟩ (.int .u16 (seg A (B + 1)))).setCell ⟨w.heap.size, 1, none⟩ (.int .i64 M)) w.heap.size g d c (trl M K m)) := OwnV.far (OwnV.far O5.out (by simp; omega) _) (by simp; omega) _
                go_wp2_with fail
                refine (HTX2.out _).mono ?_
                rintro e w7 ⟨rfl, hb7⟩
                have B7 := Lib.hid (below_to B6.out hb7 B6.out.size)
                have K7 := Lib.hid (K6.out.below hb7 K6.out.lt)
                have O7 : Hid (OwnSM w7 w.heap.size g d c (trl M K m)) := OwnV.below O6.out hb7 O6.out.lt
                clear hb7 c0 c1 B6 K6 O6
                go_wp2_with (at_builtin; refine wpList_app1s rfl (.tmp 57) (.tmp 60) rfl _ rfl O7.out rfl (by omega) ?_; intro g' c' w' hown' hg' hat')
                rw [← HTS.out] at hown'
                have R := Lib.hid hown'
                have RB := Lib.hid (below_app B7.out hg' O7.out.le)
                have RK := Lib.hid (K7.out.grown hg' (by intro h; injection h; omega))
                have RL := Lib.hid (show w.heap.size < g' by have := K7.out.lt; rcases hat' with h | h <;> omega)
                clear hown' hg' hat'
                go_wp2_with fail
                go_roundw
                case rel => exact ⟨m + 1, g', c', c + 1, by have := HSUM.out; omega, by rw [HN.out]; go_num, rfl, R.out, by rw [HN.out]; exact RK.out, RB.out, RL.out⟩
                case measure => have := HLEN.out; have := HSUM.out; simp [lenOf]; omega

              · have t6 := dec_t (show K < B - A by omega)
                have hchg := fun w => chg_any (seg A B) M A w hs16 (by omega)
                rw [seg_tail A B (by omega)] at hchg
                have hlm := fun w => leftmost_any (seg A B) M A w hs16 b2 (by omega) (by rw [seg_bit A B A i1]; simp; omega) (fun i hi => by rw [seg_bit A B i i1]; simp; omega)
                have hf16 : seg (A + 1) B < 65536 := by have := seg_lt' (A + 1) B M i2; have := HP8.out; omega
                have htx := fun w => text_any (seg (A + 1) B) M w hf16 b2
                rw [if_neg (by omega)] at hnext
                rw [hnext] at htT
                simp only at htT
                rw [htT] at hts
                have HCH := Lib.hid hchg
                have HLM := Lib.hid hlm
                have HTX2 := Lib.hid htx
                have HTS := Lib.hid hts
                have HN := Lib.hid hnext
                clear hchg hlm htx hts hnext htT
                go_wp2_with fail
                refine (HCN.out _).mono ?_
                rintro e w3 ⟨rfl, hb3⟩
                have B3 := Lib.hid (below_to B2.out hb3 B2.out.size)
                have K3 := Lib.hid (K2.out.below hb3 K2.out.lt)
                have O3 : Hid (OwnSM w3 w.heap.size g d c (trl M K m)) := OwnV.below O2.out hb3 O2.out.lt
                clear hb3 c0 c1 B2 K2 O2
                have c0 := K3.out.cell 0
                have c1 := K3.out.cell 1
                go_wp2_with fail
                have hKlt := K3.out.lt
                go_region_with (first | (go_at_call 52; refine (HLM.out _).mono ?_; rintro e wl ⟨rfl, hbl⟩; have d0 : wl.cell? ⟨w.heap.size, 0, none⟩ = some (.int .u16 (seg A B)) := (hbl.cell (p := ⟨w.heap.size, 0, none⟩) (by simpa using hKlt)).trans (by simpa using c0); have d1 : wl.cell? ⟨w.heap.size, 1, none⟩ = some (.int .i64 M) := (hbl.cell (p := ⟨w.heap.size, 1, none⟩) (by simpa using hKlt)).trans (by simpa using c1); have hszl : w.heap.size < wl.heap.size := Nat.lt_of_lt_of_le hKlt hbl.size) | (go_at_call 40; refine (HCH.out _).mono ?_; rintro e wc ⟨rfl, hbc⟩; have d0 : wc.cell? ⟨w.heap.size, 0, none⟩ = some (.int .u16 (seg A B)) := (hbc.cell (p := ⟨w.heap.size, 0, none⟩) hszl).trans d0; have d1 : wc.cell? ⟨w.heap.size, 1, none⟩ = some (.int .i64 M) := (hbc.cell (p := ⟨w.heap.size, 1, none⟩) hszl).trans d1; have f0 : wc.frozen? ⟨w.heap.size, 0, none⟩ = false := ((K3.out.drew.below hbl hKlt).below hbc hszl).frozen 0; have f1 : wc.frozen? ⟨w.heap.size, 1, none⟩ = false := ((K3.out.drew.below hbl hKlt).below hbc hszl).frozen 1))
                all_goals
                  have Kc := (K3.out.drew.below hbl hKlt).below hbc hszl
                  have Bc := below_to (below_to B3.out.drew hbl B3.out.size) hbc (Nat.le_trans B3.out.size hbl.size)
                  have Od : OwnSM w3.drew w.heap.size g d c (trl M K m) := O3.out
                  have Ol : OwnSM wl w.heap.size g d c (trl M K m) := OwnV.below Od hbl Od.lt
                  have Oc : OwnSM wc w.heap.size g d c (trl M K m) := OwnV.below Ol hbc Ol.lt
                  generalize hw6 : (wc.setCell ⟨w.heap.size, 0, none⟩ (.int .u16 (seg (A + 1) B))).setCell ⟨w.heap.size, 1, none⟩ (.int .i64 M) = w6
                  have B6 : Hid (Below w.heap.size w w6) := by rw [← hw6]; exact (Bc.setCell (by simp) _).setCell (by simp) _
                  have K6 : Hid (Blk w6 w.heap.size 54 #[.int .u16 (seg (A + 1) B), .int .i64 M]) := by rw [← hw6]; exact (Kc.set_ 0 _).set_ 1 _
                  have O6 : Hid (OwnSM w6 w.heap.size g d c (trl M K m)) := by rw [← hw6]; exact OwnV.far (OwnV.far Oc (by simp; omega) _) (by simp; omega) _
                  clear hw6 Kc Bc Od Ol Oc d0 d1 f0 f1 hbl hbc c0 c1 hszl hKlt
                  have c0 := K6.out.cell 0
                  have c1 := K6.out.cell 1
                  go_wp2_with fail
                  refine (HTX2.out _).mono ?_
                  rintro e w7 ⟨rfl, hb7⟩
                  have B7 := Lib.hid (below_to B6.out hb7 B6.out.size)
                  have K7 := Lib.hid (K6.out.below hb7 K6.out.lt)
                  have O7 : Hid (OwnSM w7 w.heap.size g d c (trl M K m)) := OwnV.below O6.out hb7 O6.out.lt
                  clear hb7 c0 c1 B6 K6 O6
                  go_wp2_with (at_builtin; refine wpList_app1s rfl (.tmp 57) (.tmp 60) rfl _ rfl O7.out rfl (by omega) ?_; intro g' c' w' hown' hg' hat')
                  rw [← HTS.out] at hown'
                  have R := Lib.hid hown'
                  have RB := Lib.hid (below_app B7.out hg' O7.out.le)
                  have RK := Lib.hid (K7.out.grown hg' (by intro h; injection h; omega))
                  have RL := Lib.hid (show w.heap.size < g' by have := K7.out.lt; rcases hat' with h | h <;> omega)
                  clear hown' hg' hat'
                  go_wp2_with fail
                  go_roundw
                  case rel => exact ⟨m + 1, g', c', c + 1, by have := HSUM.out; omega, by rw [HN.out], rfl, R.out, by rw [HN.out]; exact RK.out, RB.out, RL.out⟩
                  case measure => have := HLEN.out; have := HSUM.out; simp [lenOf]; omega

            · have t5 := dec_f hBM
              by_cases hAM : A < M
              · have t8 := dec_t (show (0 : Int) < ((B - A : Nat) : Int) by omega)
                have t8' := dec_t (show 0 < B - A by omega)
                by_cases hle : B - A ≤ K
                · have t6 := dec_f (show ¬ K < B - A by omega)
                  have t7 := dec_t (show (A ≤ M - 1 ∧ M - 1 < B) by omega)
                  have hchg := fun w => chg_any (seg A B) M A w hs16 (by omega)
                  rw [seg_tail A B (by omega)] at hchg
                  have hlm := fun w => leftmost_any (seg A B) M A w hs16 b2 (by omega) (by rw [seg_bit A B A i1]; simp; omega) (fun i hi => by rw [seg_bit A B i i1]; simp; omega)
                  have hf16 : seg (A + 1) B < 65536 := by have := seg_lt' (A + 1) B M i2; have := HP8.out; omega
                  have htx := fun w => text_any (seg (A + 1) B) M w hf16 b2
                  rw [if_neg (by omega)] at hnext
                  rw [hnext] at htT
                  simp only at htT
                  rw [htT] at hts
                  have HCH := Lib.hid hchg
                  have HLM := Lib.hid hlm
                  have HTX2 := Lib.hid htx
                  have HTS := Lib.hid hts
                  have HN := Lib.hid hnext
                  clear hchg hlm htx hts hnext htT
                  go_wp2_with fail
                  refine (HCN.out _).mono ?_
                  rintro e w3 ⟨rfl, hb3⟩
                  have B3 := Lib.hid (below_to B2.out hb3 B2.out.size)
                  have K3 := Lib.hid (K2.out.below hb3 K2.out.lt)
                  have O3 : Hid (OwnSM w3 w.heap.size g d c (trl M K m)) := OwnV.below O2.out hb3 O2.out.lt
                  clear hb3 c0 c1 B2 K2 O2
                  have c0 := K3.out.cell 0
                  have c1 := K3.out.cell 1
                  go_wp2_with fail
                  refine (HCN.out _).mono ?_
                  rintro e w4 ⟨rfl, hb4⟩
                  have B4 := Lib.hid (below_to B3.out hb4 B3.out.size)
                  have K4 := Lib.hid (K3.out.below hb4 K3.out.lt)
                  have O4 : Hid (OwnSM w4 w.heap.size g d c (trl M K m)) := OwnV.below O3.out hb4 O3.out.lt
                  clear hb4 c0 c1 B3 K3 O3
                  have c0 := K4.out.cell 0
                  have c1 := K4.out.cell 1
                  go_wp2_with fail
                  have eM : ((M : Int) - 1) = ((M - 1 : Nat) : Int) := by omega
                  rw [eM]
                  clear eM
                  refine (HOCC.out _).mono ?_
                  rintro e w5 ⟨rfl, hb5⟩
                  have B5 := Lib.hid (below_to B4.out hb5 B4.out.size)
                  have K5 := Lib.hid (K4.out.below hb5 K4.out.lt)
                  have O5 : Hid (OwnSM w5 w.heap.size g d c (trl M K m)) := OwnV.below O4.out hb5 O4.out.lt
                  clear hb5 c0 c1 B4 K4 O4
                  have c0 := K5.out.cell 0
                  have c1 := K5.out.cell 1
                  go_wp2_with fail
                  have hKlt := K5.out.lt
                  go_region_with (first | (go_at_call 52; refine (HLM.out _).mono ?_; rintro e wl ⟨rfl, hbl⟩; have d0 : wl.cell? ⟨w.heap.size, 0, none⟩ = some (.int .u16 (seg A B)) := (hbl.cell (p := ⟨w.heap.size, 0, none⟩) (by simpa using hKlt)).trans (by simpa using c0); have d1 : wl.cell? ⟨w.heap.size, 1, none⟩ = some (.int .i64 M) := (hbl.cell (p := ⟨w.heap.size, 1, none⟩) (by simpa using hKlt)).trans (by simpa using c1); have hszl : w.heap.size < wl.heap.size := Nat.lt_of_lt_of_le hKlt hbl.size) | (go_at_call 40; refine (HCH.out _).mono ?_; rintro e wc ⟨rfl, hbc⟩; have d0 : wc.cell? ⟨w.heap.size, 0, none⟩ = some (.int .u16 (seg A B)) := (hbc.cell (p := ⟨w.heap.size, 0, none⟩) hszl).trans d0; have d1 : wc.cell? ⟨w.heap.size, 1, none⟩ = some (.int .i64 M) := (hbc.cell (p := ⟨w.heap.size, 1, none⟩) hszl).trans d1; have f0 : wc.frozen? ⟨w.heap.size, 0, none⟩ = false := ((K5.out.drew.below hbl hKlt).below hbc hszl).frozen 0; have f1 : wc.frozen? ⟨w.heap.size, 1, none⟩ = false := ((K5.out.drew.below hbl hKlt).below hbc hszl).frozen 1))
                  all_goals
                    have Kc := (K5.out.drew.below hbl hKlt).below hbc hszl
                    have Bc := below_to (below_to B5.out.drew hbl B5.out.size) hbc (Nat.le_trans B5.out.size hbl.size)
                    have Od : OwnSM w5.drew w.heap.size g d c (trl M K m) := O5.out
                    have Ol : OwnSM wl w.heap.size g d c (trl M K m) := OwnV.below Od hbl Od.lt
                    have Oc : OwnSM wc w.heap.size g d c (trl M K m) := OwnV.below Ol hbc Ol.lt
                    generalize hw6 : (wc.setCell ⟨w.heap.size, 0, none⟩ (.int .u16 (seg (A + 1) B))).setCell ⟨w.heap.size, 1, none⟩ (.int .i64 M) = w6
                    have B6 : Hid (Below w.heap.size w w6) := by rw [← hw6]; exact (Bc.setCell (by simp) _).setCell (by simp) _
                    have K6 : Hid (Blk w6 w.heap.size 54 #[.int .u16 (seg (A + 1) B), .int .i64 M]) := by rw [← hw6]; exact (Kc.set_ 0 _).set_ 1 _
                    have O6 : Hid (OwnSM w6 w.heap.size g d c (trl M K m)) := by rw [← hw6]; exact OwnV.far (OwnV.far Oc (by simp; omega) _) (by simp; omega) _
                    clear hw6 Kc Bc Od Ol Oc d0 d1 f0 f1 hbl hbc c0 c1 hszl hKlt
                    have c0 := K6.out.cell 0
                    have c1 := K6.out.cell 1
                    go_wp2_with fail
                    refine (HTX2.out _).mono ?_
                    rintro e w7 ⟨rfl, hb7⟩
                    have B7 := Lib.hid (below_to B6.out hb7 B6.out.size)
                    have K7 := Lib.hid (K6.out.below hb7 K6.out.lt)
                    have O7 : Hid (OwnSM w7 w.heap.size g d c (trl M K m)) := OwnV.below O6.out hb7 O6.out.lt
                    clear hb7 c0 c1 B6 K6 O6
                    go_wp2_with (at_builtin; refine wpList_app1s rfl (.tmp 57) (.tmp 60) rfl _ rfl O7.out rfl (by omega) ?_; intro g' c' w' hown' hg' hat')
                    rw [← HTS.out] at hown'
                    have R := Lib.hid hown'
                    have RB := Lib.hid (below_app B7.out hg' O7.out.le)
                    have RK := Lib.hid (K7.out.grown hg' (by intro h; injection h; omega))
                    have RL := Lib.hid (show w.heap.size < g' by have := K7.out.lt; rcases hat' with h | h <;> omega)
                    clear hown' hg' hat'
                    go_wp2_with fail
                    go_roundw
                    case rel => exact ⟨m + 1, g', c', c + 1, by have := HSUM.out; omega, by rw [HN.out], rfl, R.out, by rw [HN.out]; exact RK.out, RB.out, RL.out⟩
                    case measure => have := HLEN.out; have := HSUM.out; simp [lenOf]; omega

                · have t6 := dec_t (show K < B - A by omega)
                  have hchg := fun w => chg_any (seg A B) M A w hs16 (by omega)
                  rw [seg_tail A B (by omega)] at hchg
                  have hlm := fun w => leftmost_any (seg A B) M A w hs16 b2 (by omega) (by rw [seg_bit A B A i1]; simp; omega) (fun i hi => by rw [seg_bit A B i i1]; simp; omega)
                  have hf16 : seg (A + 1) B < 65536 := by have := seg_lt' (A + 1) B M i2; have := HP8.out; omega
                  have htx := fun w => text_any (seg (A + 1) B) M w hf16 b2
                  rw [if_neg (by omega)] at hnext
                  rw [hnext] at htT
                  simp only at htT
                  rw [htT] at hts
                  have HCH := Lib.hid hchg
                  have HLM := Lib.hid hlm
                  have HTX2 := Lib.hid htx
                  have HTS := Lib.hid hts
                  have HN := Lib.hid hnext
                  clear hchg hlm htx hts hnext htT
                  go_wp2_with fail
                  refine (HCN.out _).mono ?_
                  rintro e w3 ⟨rfl, hb3⟩
                  have B3 := Lib.hid (below_to B2.out hb3 B2.out.size)
                  have K3 := Lib.hid (K2.out.below hb3 K2.out.lt)
                  have O3 : Hid (OwnSM w3 w.heap.size g d c (trl M K m)) := OwnV.below O2.out hb3 O2.out.lt
                  clear hb3 c0 c1 B2 K2 O2
                  have c0 := K3.out.cell 0
                  have c1 := K3.out.cell 1
                  go_wp2_with fail
                  refine (HCN.out _).mono ?_
                  rintro e w4 ⟨rfl, hb4⟩
                  have B4 := Lib.hid (below_to B3.out hb4 B3.out.size)
                  have K4 := Lib.hid (K3.out.below hb4 K3.out.lt)
                  have O4 : Hid (OwnSM w4 w.heap.size g d c (trl M K m)) := OwnV.below O3.out hb4 O3.out.lt
                  clear hb4 c0 c1 B3 K3 O3
                  have c0 := K4.out.cell 0
                  have c1 := K4.out.cell 1
                  go_wp2_with fail
                  have hKlt := K4.out.lt
                  go_region_with (first | (go_at_call 52; refine (HLM.out _).mono ?_; rintro e wl ⟨rfl, hbl⟩; have d0 : wl.cell? ⟨w.heap.size, 0, none⟩ = some (.int .u16 (seg A B)) := (hbl.cell (p := ⟨w.heap.size, 0, none⟩) (by simpa using hKlt)).trans (by simpa using c0); have d1 : wl.cell? ⟨w.heap.size, 1, none⟩ = some (.int .i64 M) := (hbl.cell (p := ⟨w.heap.size, 1, none⟩) (by simpa using hKlt)).trans (by simpa using c1); have hszl : w.heap.size < wl.heap.size := Nat.lt_of_lt_of_le hKlt hbl.size) | (go_at_call 40; refine (HCH.out _).mono ?_; rintro e wc ⟨rfl, hbc⟩; have d0 : wc.cell? ⟨w.heap.size, 0, none⟩ = some (.int .u16 (seg A B)) := (hbc.cell (p := ⟨w.heap.size, 0, none⟩) hszl).trans d0; have d1 : wc.cell? ⟨w.heap.size, 1, none⟩ = some (.int .i64 M) := (hbc.cell (p := ⟨w.heap.size, 1, none⟩) hszl).trans d1; have f0 : wc.frozen? ⟨w.heap.size, 0, none⟩ = false := ((K4.out.drew.below hbl hKlt).below hbc hszl).frozen 0; have f1 : wc.frozen? ⟨w.heap.size, 1, none⟩ = false := ((K4.out.drew.below hbl hKlt).below hbc hszl).frozen 1))
                  all_goals
                    have Kc := (K4.out.drew.below hbl hKlt).below hbc hszl
                    have Bc := below_to (below_to B4.out.drew hbl B4.out.size) hbc (Nat.le_trans B4.out.size hbl.size)
                    have Od : OwnSM w4.drew w.heap.size g d c (trl M K m) := O4.out
                    have Ol : OwnSM wl w.heap.size g d c (trl M K m) := OwnV.below Od hbl Od.lt
                    have Oc : OwnSM wc w.heap.size g d c (trl M K m) := OwnV.below Ol hbc Ol.lt
                    generalize hw6 : (wc.setCell ⟨w.heap.size, 0, none⟩ (.int .u16 (seg (A + 1) B))).setCell ⟨w.heap.size, 1, none⟩ (.int .i64 M) = w6
                    have B6 : Hid (Below w.heap.size w w6) := by rw [← hw6]; exact (Bc.setCell (by simp) _).setCell (by simp) _
                    have K6 : Hid (Blk w6 w.heap.size 54 #[.int .u16 (seg (A + 1) B), .int .i64 M]) := by rw [← hw6]; exact (Kc.set_ 0 _).set_ 1 _
                    have O6 : Hid (OwnSM w6 w.heap.size g d c (trl M K m)) := by rw [← hw6]; exact OwnV.far (OwnV.far Oc (by simp; omega) _) (by simp; omega) _
                    clear hw6 Kc Bc Od Ol Oc d0 d1 f0 f1 hbl hbc c0 c1 hszl hKlt
                    have c0 := K6.out.cell 0
                    have c1 := K6.out.cell 1
                    go_wp2_with fail
                    refine (HTX2.out _).mono ?_
                    rintro e w7 ⟨rfl, hb7⟩
                    have B7 := Lib.hid (below_to B6.out hb7 B6.out.size)
                    have K7 := Lib.hid (K6.out.below hb7 K6.out.lt)
                    have O7 : Hid (OwnSM w7 w.heap.size g d c (trl M K m)) := OwnV.below O6.out hb7 O6.out.lt
                    clear hb7 c0 c1 B6 K6 O6
                    go_wp2_with (at_builtin; refine wpList_app1s rfl (.tmp 57) (.tmp 60) rfl _ rfl O7.out rfl (by omega) ?_; intro g' c' w' hown' hg' hat')
                    rw [← HTS.out] at hown'
                    have R := Lib.hid hown'
                    have RB := Lib.hid (below_app B7.out hg' O7.out.le)
                    have RK := Lib.hid (K7.out.grown hg' (by intro h; injection h; omega))
                    have RL := Lib.hid (show w.heap.size < g' by have := K7.out.lt; rcases hat' with h | h <;> omega)
                    clear hown' hg' hat'
                    go_wp2_with fail
                    go_roundw
                    case rel => exact ⟨m + 1, g', c', c + 1, by have := HSUM.out; omega, by rw [HN.out], rfl, R.out, by rw [HN.out]; exact RK.out, RB.out, RL.out⟩
                    case measure => have := HLEN.out; have := HSUM.out; simp [lenOf]; omega

              · have t8 := dec_f (show ¬ (0 : Int) < ((B - A : Nat) : Int) by omega)
                have t8' := dec_f (show ¬ 0 < B - A by omega)
                have HM := Lib.hid (show m = 2 * M by have := HSUM.out; omega)
                clear hts htT hnext
                go_wp2_with fail
                refine (HCN.out _).mono ?_
                rintro e w3 ⟨rfl, hb3⟩
                have B3 := Lib.hid (below_to B2.out hb3 B2.out.size)
                have K3 := Lib.hid (K2.out.below hb3 K2.out.lt)
                have O3 : Hid (OwnSM w3 w.heap.size g d c (trl M K m)) := OwnV.below O2.out hb3 O2.out.lt
                clear hb3 c0 c1 B2 K2 O2
                have c0 := K3.out.cell 0
                have c1 := K3.out.cell 1
                go_wp2_with fail
                go_ret2
                have ho := O3.out
                rw [HM.out] at ho
                exact ⟨g, d, ret_slb ho.len, ho.own, B3.out⟩
        · have t4 := dec_t (show n < L by omega)
          have hok : trOk n L = false := by simp [trOk, inB]; omega
          have hv : trV n L = [] := by simp [trV, hok]
          rw [hok, hv]; clear hok hv
          go_enter Try.func29, Try.ntmps29
          go_wp2
          go_ret2
          exact ⟨_, _, rfl, ownSM_empty w _ (Nat.le_refl _), below_new w _⟩
      · have t3 := dec_t (show L < 1 by omega)
        have hok : trOk n L = false := by simp [trOk, inB]; omega
        have hv : trV n L = [] := by simp [trV, hok]
        rw [hok, hv]; clear hok hv
        go_enter Try.func29, Try.ntmps29
        go_wp2
        go_ret2
        exact ⟨_, _, rfl, ownSM_empty w _ (Nat.le_refl _), below_new w _⟩
    · have t2 := dec_t (show 8 < n by omega)
      have hok : trOk n L = false := by simp [trOk, inB]; omega
      have hv : trV n L = [] := by simp [trV, hok]
      rw [hok, hv]; clear hok hv
      go_enter Try.func29, Try.ntmps29
      go_wp2
      go_ret2
      exact ⟨_, _, rfl, ownSM_empty w _ (Nat.le_refl _), below_new w _⟩
  · have t1 := dec_t (show n < 1 by omega)
    have hok : trOk n L = false := by simp [trOk, inB]; omega
    have hv : trV n L = [] := by simp [trV, hok]
    rw [hok, hv]; clear hok hv
    go_enter Try.func29, Try.ntmps29
    go_wp2
    go_ret2
    exact ⟨_, _, rfl, ownSM_empty w _ (Nat.le_refl _), below_new w _⟩

end Go.Proofs.Ytkfgimhihknpoaa
