/-
  The law FnCountsRun. No condition.
-/
import Derived.Test.YtgjgedmciiolmaaCnt3
import Derived.Test.YtgjgedmciiolmaaCnt2
namespace Go.Proofs.Ytgjgedmciiolmaa
open Go.RowKit
set_option linter.unusedVariables false

theorem AtInts.drop {w : World} {g off : Nat} {zs : List Int} (h : AtInts w g off zs) (m : Nat) : AtInts w g (off + m) (zs.drop m) := fun k hk => by
  have hk' : m + k < zs.length := by simp at hk; omega
  have := h (m + k) hk'
  rw [← Nat.add_assoc] at this
  rw [this]
  simp [List.getD]
/-- The last of two runs, its pulses behind the first m. -/
theorem impl_run_drop (b off c b' c' m : Nat) (zs ps : List Int) (w : World) (hn : zs.length ≤ 1048576) (hn' : ps.length ≤ 1048576) (hz : ∀ z ∈ ps, -9223372036854775808 ≤ z ∧ z ≤ 9223372036854775807) (hm : m ≤ ps.length)
    (hc : AtInts w b off zs) (hb : b < w.heap.size) (hc' : AtInts w b' 0 ps) (hb' : b' < w.heap.size) (off' : Nat) (hoff : off' = m ∨ m = ps.length) :
    Calls Try.prog 26 #[.slice (some ⟨b, off, none⟩) zs.length c, .slice (some ⟨b', off', none⟩) (ps.length - m) c'] w (NewIntsB w (runV zs (ps.drop m)).1 (runV zs (ps.drop m)).2) := by
  have hl : ps.length - m = (ps.drop m).length := by simp
  rw [hl]
  refine impl_run b off c b' off' c' zs (ps.drop m) w hn (by simp; omega) (fun z h => hz z (List.mem_of_mem_drop h)) hc hb ?_ hb'
  rcases hoff with h | h
  · subst h; have := hc'.drop off'; rw [Nat.zero_add] at this; exact this
  · intro k hk; simp at hk; omega

set_option maxHeartbeats 6400000 in
theorem law_CountsRun (A : Option Addr) (c : Nat) (ys : List Int) (A' : Option Addr) (c' : Nat) (ys' : List Int) (w : World) (hq : ArgBytes w A c ys) (hq' : ArgBytes w A' c' ys') :
    Calls Try.prog 7 #[.slice A ys.length c, .slice A' ys'.length c'] w fun e w' => e = .returned (.bool true) ∧ Below w.heap.size w w' := by
  obtain ⟨hr, hlc, hc⟩ := hq
  obtain ⟨_, hlc', hc'⟩ := hq'
  by_cases hbig : 1048576 < ys.length
  · have t0 := dec_t (show (1048576 : Int) < (ys.length : Int) by omega)
    go_enter Try.func7, Try.ntmps7
    go_wp2_with fail
    go_ret
    exact ⟨rfl, Below.refl _ _⟩
  have t0 := dec_f (show ¬ (1048576 : Int) < (ys.length : Int) by omega)
  by_cases hbig' : 1048576 < ys'.length
  · have t0' := dec_t (show (1048576 : Int) < (ys'.length : Int) by omega)
    go_enter Try.func7, Try.ntmps7
    go_wp2_with fail
    go_ret
    exact ⟨rfl, Below.refl _ _⟩
  have t0' := dec_f (show ¬ (1048576 : Int) < (ys'.length : Int) by omega)
  have HD := Lib.hid (draw_crun A c ys.length w hlc hc hr)
  clear hr
  go_enter Try.func7, Try.ntmps7
  go_wp2_with fail
  refine HD.out.mono ?_
  rintro e w1 ⟨zs, ps, g, d, gp, dp, rfl, hl4, hp12, hpin, hpd, hdp, hat, hlt, hatp, hltp, hb1⟩
  have hpin' : ∀ z ∈ ps, -9223372036854775808 ≤ z ∧ z ≤ 9223372036854775807 := fun z hz => by have := hpin z hz; omega
  have HPIN := Lib.hid hpin'
  have A1 := Lib.hid hat
  have P1 := Lib.hid hatp
  have B1 := Lib.hid hb1
  have L1 := Lib.hid hlt
  have M1 := Lib.hid hltp
  clear hat hb1 hlt hatp hltp hpin hpin' HD
  go_wp2_with fail
  refine (impl_run g 0 d gp 0 dp zs ps _ (by omega) (by omega) HPIN.out A1.out L1.out P1.out M1.out).mono ?_
  rintro e w2 ⟨g2, c2, rfl, ho2, hb2⟩
  have O2 := Lib.hid ho2
  have A2 := Lib.hid (A1.out.below hb2 L1.out)
  have P2 := Lib.hid (P1.out.below hb2 M1.out)
  have L2 := Lib.hid (Nat.lt_of_lt_of_le L1.out hb2.size)
  have M2 := Lib.hid (Nat.lt_of_lt_of_le M1.out hb2.size)
  have B2 := Lib.hid (below_to B1.out hb2 B1.out.size)
  clear ho2 hb2 A1 B1 L1 P1 M1
  go_wp2_with fail
  refine (spec_run g 0 d gp 0 dp zs ps _ (by omega) (by omega) HPIN.out A2.out L2.out P2.out M2.out).mono ?_
  rintro e w3 ⟨g3, c3, rfl, ho3, hb3⟩
  have O3 := Lib.hid ho3
  have N3 := Lib.hid (O2.out.below hb3 O2.out.lt)
  have A3 := Lib.hid (A2.out.below hb3 L2.out)
  have P3 := Lib.hid (P2.out.below hb3 M2.out)
  have L3 := Lib.hid (Nat.lt_of_lt_of_le L2.out hb3.size)
  have M3 := Lib.hid (Nat.lt_of_lt_of_le M2.out hb3.size)
  have B3 := Lib.hid (below_to B2.out hb3 B2.out.size)
  clear ho3 hb3 A2 B2 L2 O2 P2 M2
  by_cases hok : (runV zs ps).2 = true
  · have hmm : ys'.length % (ps.length + 1) < ps.length + 1 := Nat.mod_lt _ (by omega)
    have hrem := rem_nat (a := ys'.length) (show 0 < ps.length + 1 by omega)
    generalize ys'.length % (ps.length + 1) = m at *
    obtain ⟨r1, r2⟩ := hrem
    have hpc : ((ps.length + 1 : Nat) : Int) = (ps.length : Int) + 1 := by omega
    rw [hpc] at r1 r2
    obtain ⟨hcv, hol, hnok, hnl, hnet, hbd, hnbd, mid, hml, hm1, hm2⟩ := runV_ok hok m
    rw [hok]
    generalize (runV zs ps).1 = out at *
    have hneti := fun w hc hb => impl_net (zs.length : Int) gp 0 dp ps w (by omega) HPIN.out hc hb
    rw [hnok] at hneti
    generalize netV (zs.length : Int) ps = net at *
    have hr1 := fun w ha hb hp hb' => impl_run g 0 d gp 0 dp zs (ps.take m) w (by omega) (by simp; omega) (fun z h => HPIN.out z (List.mem_of_mem_take h)) ha hb hp hb'
    rw [hm1, show (ps.take m).length = m by simp; omega] at hr1
    have hr2 := fun b c' off' w ha hb hp hb' ho => impl_run_drop b 0 c' gp (dp - m) m mid ps w (by omega) (by omega) HPIN.out (by omega) ha hb hp hb' off' ho
    rw [hm2] at hr2
    have HNET := Lib.hid hnet
    have HBD := Lib.hid hbd
    have HNBD := Lib.hid hnbd
    have HNETI := Lib.hid hneti
    have HR1 := Lib.hid hr1
    have HR2 := Lib.hid hr2
    have HNL := Lib.hid hnl
    have hnl1 : net.length ≤ zs.length + 1 := by omega
    have hnl2 : zs.length + 1 ≤ net.length := by omega
    have HOL := Lib.hid hol
    have hol1 : out.length ≤ zs.length := by omega
    have hol2 : zs.length ≤ out.length := by omega
    have hml1 : mid.length ≤ zs.length := by omega
    clear hcv hnok hnet hbd hnbd hneti hr1 hr2 hm1 hm2 hok hnl hol hml hpc
    go_wp2_with fail
    refine (sameInts_any _ 0 _ _ 0 _ out out _ (by omega) (by omega) N3.out.at O3.out.at).mono ?_
    rintro e w4 ⟨rfl, n4, rfl⟩
    rw [dec_t (show out = out from rfl)]
    have N4 : Hid (AtInts (w3.drewN n4) g2 0 out) := Lib.hid (N3.out.at.keep rfl)
    have NL4 : Hid (g2 < (w3.drewN n4).heap.size) := Lib.hid N3.out.lt
    have A4 : Hid (AtInts (w3.drewN n4) g 0 zs) := Lib.hid (A3.out.keep rfl)
    have L4 : Hid (g < (w3.drewN n4).heap.size) := Lib.hid L3.out
    have P4 : Hid (AtInts (w3.drewN n4) gp 0 ps) := Lib.hid (P3.out.keep rfl)
    have M4 : Hid (gp < (w3.drewN n4).heap.size) := Lib.hid M3.out
    have B4 := Lib.hid (below_drewN B3.out n4)
    clear A3 L3 B3 P3 O3 N3 M3
    generalize w3.drewN n4 = w4 at *
    go_wp2_with fail
    refine (HNETI.out _ P4.out M4.out).mono ?_
    rintro e w5 ⟨g5, c5, rfl, ho5, hb5⟩
    have T5 := Lib.hid ho5.at
    have TL5 := Lib.hid ho5.lt
    have N5 := Lib.hid (N4.out.below hb5 NL4.out)
    have NL5 := Lib.hid (Nat.lt_of_lt_of_le NL4.out hb5.size)
    have A5 := Lib.hid (A4.out.below hb5 L4.out)
    have L5 := Lib.hid (Nat.lt_of_lt_of_le L4.out hb5.size)
    have P5 := Lib.hid (P4.out.below hb5 M4.out)
    have M5 := Lib.hid (Nat.lt_of_lt_of_le M4.out hb5.size)
    have B5 := Lib.hid (below_to B4.out hb5 B4.out.size)
    clear ho5 hb5 N4 NL4 A4 L4 P4 M4 B4
    have tn := bne_f (show (net.length : Int) = (zs.length : Int) + 1 by omega)
    go_wp2_with fail
    go_loopw [14] (fun q wr => ∃ k : Nat, k ≤ zs.length ∧ q = .int .i64 k ∧ Qt w5 wr) (fun q _ => zs.length - (intOf q).toNat)
    case atStart => exact ⟨0, by omega, rfl, 0, rfl⟩
    case round =>
      obtain ⟨k, hk, rfl, hqt⟩ := hrel
      have Q5 := Lib.hid hqt
      have hb5 := hqt.below w5.heap.size
      have N6 := Lib.hid (N5.out.below hb5 NL5.out)
      have NL6 := Lib.hid (Nat.lt_of_lt_of_le NL5.out hb5.size)
      have A6 := Lib.hid (A5.out.below hb5 L5.out)
      have L6 := Lib.hid (Nat.lt_of_lt_of_le L5.out hb5.size)
      have P6 := Lib.hid (P5.out.below hb5 M5.out)
      have M6 := Lib.hid (Nat.lt_of_lt_of_le M5.out hb5.size)
      have T6 := Lib.hid (T5.out.below hb5 TL5.out)
      have B6 := Lib.hid (below_to B5.out hb5 B5.out.size)
      clear hqt hb5
      by_cases hlt : k < zs.length
      · have hc1 := N6.out k (by omega)
        have hc2 := A6.out k (by omega)
        have hc3 := T6.out k (by omega)
        have hc4 := T6.out (k + 1) (by omega)
        have hd := HNET.out k hlt
        have hb1 := HBD.out k hlt
        have hb2 := HNBD.out k
        have hb3 := HNBD.out (k + 1)
        rw [Nat.zero_add] at hc1 hc2 hc3 hc4
        generalize out.getD k 0 = o at *
        generalize zs.getD k 0 = z at *
        generalize net.getD k 0 = a at *
        generalize net.getD (k + 1) 0 = b at *
        obtain ⟨⟨hb11, hb12⟩, hb13, hb14⟩ := hb1
        obtain ⟨hb21, hb22⟩ := hb2
        obtain ⟨hb31, hb32⟩ := hb3
        have i1 : (k : Int) < (zs.length : Int) := by omega
        have i2 : (k : Int) < (out.length : Int) := by omega
        have i3 : (k : Int) < (net.length : Int) := by omega
        have i4 : (k : Int) + 1 < (net.length : Int) := by omega
        have i5 : (0 : Int) ≤ (k : Int) + 1 := by omega
        have i6 : ((k : Int) + 1).toNat = k + 1 := by omega
        have t1 := bne_f hd
        have u1 : IntKind.i64.wrap (o - z) = o - z := IntWalk.i64_in _ (by omega)
        have u2 : IntKind.i64.wrap (a - b) = a - b := IntWalk.i64_in _ (by omega)
        have u3 : IntKind.i64.wrap ((k : Int) + 1) = (k : Int) + 1 := IntWalk.i64_in _ (by omega)
        have u4 : IntKind.i64.wrap ((zs.length : Int) + 1) = (zs.length : Int) + 1 := IntWalk.i64_in _ (by omega)
        clear hd
        go_wp2_with fail
        go_quiet (fail)
        clear u1 u2 u3 u4
        go_wp2_with fail
        go_roundw
        case rel => exact ⟨k + 1, by omega, by go_num, by obtain ⟨n0, h0⟩ := Q5.out; exact ⟨_, by rw [h0, World.drewN_drewN]⟩⟩
        case measure => simp [intOf]; omega
      · have ip0 : ¬ (ps.length : Int) + 1 = 0 := by omega
        have im1 : (m : Int) ≤ (dp : Int) := by omega
        have im2 : (m : Int) ≤ (ps.length : Int) := by omega
        have im3 : m ≤ ps.length := by omega
        have PT6 : Hid (AtInts wr gp 0 (ps.take m)) := Lib.hid (P6.out.take m)
        clear T5 TL5 N5 NL5 A5 L5 P5 M5 B5 T6
        by_cases hmd : m = dp
        · have hmp : m = ps.length := by omega
          have hdpl : dp = ps.length := by omega
          clear hmd hmm im1 im2 im3 hpd
          subst hmp
          subst hdpl
          go_wp2_with fail
          refine (HR1.out _ A6.out L6.out PT6.out M6.out).mono ?_
          rintro e w7 ⟨g7, c7, rfl, ho7, hb7⟩
          have O7 := Lib.hid ho7
          have N7 := Lib.hid (N6.out.below hb7 NL6.out)
          have NL7 := Lib.hid (Nat.lt_of_lt_of_le NL6.out hb7.size)
          have P7 := Lib.hid (P6.out.below hb7 M6.out)
          have M7 := Lib.hid (Nat.lt_of_lt_of_le M6.out hb7.size)
          have B7 := Lib.hid (below_to B6.out hb7 B6.out.size)
          clear ho7 hb7 N6 NL6 A6 L6 P6 M6 B6 PT6
          have h2 := HR2.out g7 c7 0 _ O7.out.at O7.out.lt P7.out M7.out (by simp)
          rw [Nat.sub_self] at h2
          have H2 := Lib.hid h2
          clear h2
          go_wp2_with fail
          refine H2.out.mono ?_
          rintro e w8 ⟨g8, c8, rfl, ho8, hb8⟩
          have O8 := Lib.hid ho8
          have N8 := Lib.hid (N7.out.below hb8 NL7.out)
          have B8 := Lib.hid (below_to B7.out hb8 B7.out.size)
          clear ho8 hb8
          go_wp2_with fail
          refine (sameInts_any _ 0 _ _ 0 _ out out _ (by omega) (by omega) O8.out.at N8.out).mono ?_
          rintro e w9 ⟨rfl, n9, rfl⟩
          rw [dec_t (show out = out from rfl)]
          go_wp2_with fail
          go_ret
          exact ⟨rfl, below_drewN B8.out _⟩
        · go_wp2_with fail
          refine (HR1.out _ A6.out L6.out PT6.out M6.out).mono ?_
          rintro e w7 ⟨g7, c7, rfl, ho7, hb7⟩
          have O7 := Lib.hid ho7
          have N7 := Lib.hid (N6.out.below hb7 NL6.out)
          have NL7 := Lib.hid (Nat.lt_of_lt_of_le NL6.out hb7.size)
          have P7 := Lib.hid (P6.out.below hb7 M6.out)
          have M7 := Lib.hid (Nat.lt_of_lt_of_le M6.out hb7.size)
          have B7 := Lib.hid (below_to B6.out hb7 B6.out.size)
          clear ho7 hb7 N6 NL6 A6 L6 P6 M6 B6 PT6
          go_wp2_with fail
          refine (HR2.out g7 c7 m _ O7.out.at O7.out.lt P7.out M7.out (Or.inl rfl)).mono ?_
          rintro e w8 ⟨g8, c8, rfl, ho8, hb8⟩
          have O8 := Lib.hid ho8
          have N8 := Lib.hid (N7.out.below hb8 NL7.out)
          have B8 := Lib.hid (below_to B7.out hb8 B7.out.size)
          clear ho8 hb8
          go_wp2_with fail
          refine (sameInts_any _ 0 _ _ 0 _ out out _ (by omega) (by omega) O8.out.at N8.out).mono ?_
          rintro e w9 ⟨rfl, n9, rfl⟩
          rw [dec_t (show out = out from rfl)]
          go_wp2_with fail
          go_ret
          exact ⟨rfl, below_drewN B8.out _⟩
  · have hok' : (runV zs ps).2 = false := by simpa using hok
    have hv := runV_false hok'
    rw [hok', hv]
    rw [hv] at N3 O3
    clear hok hok' hv
    go_wp2_with fail
    refine (sameInts_any _ 0 _ _ 0 _ [] [] _ (by simp) (by simp) N3.out.at O3.out.at).mono ?_
    rintro e w4 ⟨rfl, n4, rfl⟩
    rw [dec_t (show ([] : List Int) = [] from rfl)]
    have A4 : Hid (AtInts (w3.drewN n4) g2 0 []) := Lib.hid (N3.out.at.keep rfl)
    have A4' : Hid (AtInts (w3.drewN n4) g3 0 []) := Lib.hid (O3.out.at.keep rfl)
    have B4 := Lib.hid (below_drewN B3.out n4)
    generalize w3.drewN n4 = w4 at *
    go_wp2_with fail
    refine (sameInts_any _ 0 _ _ 0 _ [] [] _ (by simp) (by simp) A4.out A4'.out).mono ?_
    rintro e w5 ⟨rfl, n5, rfl⟩
    rw [dec_t (show ([] : List Int) = [] from rfl)]
    go_wp2_with fail
    go_ret
    exact ⟨rfl, below_drewN B4.out n5⟩

end Go.Proofs.Ytgjgedmciiolmaa
