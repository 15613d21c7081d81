/-
  The drawing of pulses: l92Pulse, l92Pulses, DrawCountsRun. No condition.
-/
import Derived.Test.YtgjgedmciiolmaaCntP
namespace Go.Proofs.Ytgjgedmciiolmaa
open Go.RowKit
set_option linter.unusedVariables false

def DrawnN (w : World) (base R p k : Nat) (lo hi : Int) (e : Ending) (w' : World) : Prop :=
  ∃ (x : Int) (p' : Nat), e = .returned (.int .i64 x) ∧ lo ≤ x ∧ x ≤ hi ∧ p' ≤ p + k ∧ Rdr w' base R p' ∧ w.grownBy w' (some R)
set_option maxHeartbeats 1600000 in
theorem l92Pulse_any (base R p n : Nat) (w : World) (hp : p ≤ 100000) (hn : n ≤ 1000) (hr : Rdr w base R p) :
    Calls Try.prog 57 #[.pointer (some ⟨R, 0, none⟩), .int .i64 n] w (DrawnN w base R p 3 (-2 - n) (n + 1)) := by
  have HR := Lib.hid hr
  clear hr
  go_enter Try.func57, Try.ntmps57
  go_wp2_with fail
  refine (pick_any base R p 16 _ (by omega) (by omega) HR.out).mono ?_
  rintro e w1 ⟨x, rfl, _, hr1, hg1⟩
  have R1 := Lib.hid hr1
  have G1 := Lib.hid hg1
  clear hr1 hg1
  by_cases hx0 : x = 0
  · subst hx0
    go_wp2_with fail
    refine (pickLit_any base R (p + 1) [(n : Int) + 1, -2 - (n : Int)] 3 2 w1 (by omega) (by omega) R1.out).mono ?_
    rintro e w2 ⟨i, rfl, hi, hat2, hsz2, hr2, hg2⟩
    have hc2 := hat2 i (by show i < 2; omega)
    rw [Nat.zero_add] at hc2
    have hv : -2 - (n : Int) ≤ ([(n : Int) + 1, -2 - (n : Int)] : List Int).getD i 0 ∧ ([(n : Int) + 1, -2 - (n : Int)] : List Int).getD i 0 ≤ (n : Int) + 1 := by
      match i, hi with
      | 0, _ => simp; omega
      | 1, _ => simp; omega
    generalize ([(n : Int) + 1, -2 - (n : Int)] : List Int).getD i 0 = v at *
    have R2 := Lib.hid hr2
    have G2 := Lib.hid (grownBy_trans G1.out hg2)
    have i4 : (i : Int) < 2 := by omega
    clear hr2 hg2 hat2
    go_wp2_with fail
    go_ret
    exact ⟨v, p + 1 + 1, rfl, hv.1, hv.2, by omega, R2.out, G2.out⟩
  · have t1 := beq_f (show (x : Int) ≠ 0 by omega)
    have t1' : (x == 0) = false := by simpa using hx0
    go_wp2_with fail
    refine (pick_any base R (p + 1) ((n : Int) + 1) _ (by omega) (by omega) R1.out).mono ?_
    rintro e w2 ⟨k, rfl, hk, hr2, hg2⟩
    have hkn : k ≤ n := by have := hk (by omega); omega
    have R2 := Lib.hid hr2
    have G2 := Lib.hid (grownBy_trans G1.out hg2)
    clear hr2 hg2 hk
    go_wp2_with fail
    refine (pick_any base R (p + 1 + 1) 4 _ (by omega) (by omega) R2.out).mono ?_
    rintro e w3 ⟨y, rfl, _, hr3, hg3⟩
    have R3 := Lib.hid hr3
    have G3 := Lib.hid (grownBy_trans G2.out hg3)
    clear hr3 hg3
    by_cases hy0 : y = 0
    · subst hy0
      go_wp2_with fail
      go_ret
      exact ⟨-1 - (k : Int), p + 1 + 1 + 1, rfl, by omega, by omega, by omega, R3.out, G3.out⟩
    · have t2 := beq_f (show (y : Int) ≠ 0 by omega)
      have t2' : (y == 0) = false := by simpa using hy0
      go_wp2_with fail
      go_ret
      exact ⟨k, p + 1 + 1 + 1, rfl, by omega, by omega, by omega, R3.out, G3.out⟩

theorem pulV_len (zs : List Int) (p : Int) (h : (pulV zs p).2 = true) : (pulV zs p).1.length = zs.length := by
  unfold pulV at h ⊢
  split
  · split
    · exact plL_length zs p
    · rename_i h1 h2; rw [if_pos h1, if_neg h2] at h; simp at h
  · rename_i h1; rw [if_neg h1] at h; simp at h
set_option maxHeartbeats 3200000 in
theorem l92Pulses_any (base R p b d0 : Nat) (zs0 : List Int) (w : World) (hp : p ≤ 10000) (hl : zs0.length ≤ 8) (hr : Rdr w base R p) (ha : AtInts w b 0 zs0) (hb : b < w.heap.size) (hbR : b ≠ R) :
    Calls Try.prog 45 #[.pointer (some ⟨R, 0, none⟩), .slice (some ⟨b, 0, none⟩) zs0.length d0] w (DrawnL w base R p 60 12 (-20) 20) := by
  have hRl := hr.lt
  have HR := Lib.hid (hr.alloc (.cells #[] 3))
  have HO := Lib.hid (ownM_empty w w.heap.size (Nat.le_refl _))
  have HG := Lib.hid (grownBy_alloc (World.grownBy.refl w (some R)) (.cells #[] 3))
  have HA : Hid (AtInts (w.alloc (.cells #[] 3)) b 0 zs0) := Lib.hid (ha.keep (Below.heap_alloc w _ b hb))
  clear hr ha
  go_enter Try.func45, Try.ntmps45
  go_wp2_with fail
  refine (pick_any base R p 9 _ (by omega) (by omega) HR.out).mono ?_
  rintro e w1 ⟨x, rfl, hx, hr1, hg1⟩
  have hx3 : x < 9 := by have := hx (by omega); omega
  have R1 := Lib.hid hr1
  have G1 := Lib.hid (grownBy_trans HG.out hg1)
  have O1 : Hid (OwnM w1 w.heap.size w.heap.size 0 0 []) := Lib.hid (OwnV.grown HO.out hg1 (by intro h; injection h; omega))
  have A1 := Lib.hid (HA.out.grown hg1 (by simp; omega) (by intro h; injection h; omega))
  have L1 : Hid (b < w1.heap.size) := Lib.hid (by have := hg1.size; simp at this; omega)
  clear hr1 hg1 hx HR HO HG HA
  go_wp2_with fail
  go_loopw [1, 5, 7] (fun cv v q wr => ∃ (k g d m b' d' n p' : Nat) (zs zs' : List Int), k ≤ x ∧ q = .int .i64 k ∧ v = .slice (some ⟨g, 0, none⟩) m d ∧ m ≤ k ∧ OwnM wr w.heap.size g d m zs ∧ (∀ z ∈ zs, -20 ≤ z ∧ z ≤ 20) ∧ p' ≤ p + 1 + 3 * k ∧ Rdr wr base R p' ∧ w.grownBy wr (some R) ∧ cv = .slice (some ⟨b', 0, none⟩) n d' ∧ n = zs'.length ∧ n ≤ 8 ∧ AtInts wr b' 0 zs' ∧ b' < wr.heap.size ∧ b' ≠ R ∧ b' ≠ g) (fun _ _ q _ => x - (intOf q).toNat)
  case atStart => exact ⟨0, _, _, 0, b, d0, zs0.length, p + 1, [], zs0, by omega, rfl, rfl, by omega, O1.out, by simp, by omega, R1.out, G1.out, rfl, rfl, hl, A1.out, L1.out, hbR, by omega⟩
  case round =>
    clear O1 R1 G1 A1 L1
    obtain ⟨k, g, d, m, b', d', n, p', zs, zs', hk, rfl, rfl, hmk, hown, hin, hp', hr, hg, rfl, rfl, hn8, ha, hbl, hbR', hbg⟩ := hrel
    have HOW := Lib.hid hown
    have HIN := Lib.hid hin
    have HR := Lib.hid hr
    have HG := Lib.hid hg
    have HA := Lib.hid ha
    have hgR : R ≠ g := by have := hown.le; omega
    clear hown hin hr hg ha
    have hpu := fun w hr => l92Pulse_any base R p' zs'.length w (by omega) (by omega) hr
    have HPU := Lib.hid hpu
    clear hpu
    by_cases hlt : k < x
    · have t0 := dec_t (show (k : Int) < (x : Int) by omega)
      go_wp2_with fail
      refine (HPU.out _ HR.out).mono ?_
      rintro e w2 ⟨y, p2, rfl, hy1, hy2, hp2, hr2, hg2⟩
      have R2 := Lib.hid hr2
      have G2 := Lib.hid (grownBy_trans HG.out hg2)
      have O2 : Hid (OwnM w2 w.heap.size g d m zs) := Lib.hid (OwnV.grown HOW.out hg2 (by intro h; injection h; omega))
      have A2 := Lib.hid (HA.out.grown hg2 hbl (by intro h; injection h; omega))
      have L2 := Lib.hid (Nat.lt_of_lt_of_le hbl hg2.size)
      clear hr2 hg2
      go_wp2_with fail
      refine (spec_pulse b' 0 d' zs' y _ (by omega) (by omega) A2.out L2.out).mono ?_
      rintro e w3 ⟨g3, c3, rfl, ho3, hb3⟩
      have R3 := Lib.hid (R2.out.below hb3 R2.out.lt)
      have G3 : Hid (w.grownBy w3 (some R)) := Lib.hid ⟨hb3.os.trans G2.out.os, hb3.tape.trans G2.out.tape, hb3.output.trans G2.out.output, Nat.le_trans G2.out.size hb3.size, fun i hi hne => (hb3.block i (Nat.lt_of_lt_of_le hi G2.out.size)).trans (G2.out.block i hi hne)⟩
      have O3 : Hid (OwnM w3 w.heap.size g d m zs) := Lib.hid (OwnV.below O2.out hb3 O2.out.lt)
      have A3 := Lib.hid (A2.out.below hb3 L2.out)
      have L3 := Lib.hid (Nat.lt_of_lt_of_le L2.out hb3.size)
      have N3 := Lib.hid ho3
      have hg3g : g3 ≠ g := by have := ho3.le; have := O2.out.lt; omega
      have hg3R : g3 ≠ R := by have := ho3.le; have := R2.out.lt; omega
      clear ho3 hb3
      by_cases hok : (pulV zs' y).2 = true
      · have hlen := pulV_len zs' y hok
        rw [hok]
        generalize (pulV zs' y).1 = zs3 at *
        have HLEN := Lib.hid hlen
        have hn3 : zs3.length ≤ 8 := by omega
        clear hok hlen
        go_wp2_with (at_builtin; refine wpList_app1i rfl (.tmp 31) (.tmp 33) rfl _ rfl O3.out rfl (by omega) ?_; intro g' c' w' hown' hg' hat')
        have RO := Lib.hid hown'
        have RG := Lib.hid (grownBy_to G3.out hg' O3.out.le)
        have RR := Lib.hid (R3.out.grown hg' (fun g0 h => by injection h with h; subst h; have := O3.out.le; omega))
        have RA := Lib.hid (N3.out.at.grown hg' N3.out.lt (by intro h; injection h; omega))
        have RL := Lib.hid (Nat.lt_of_lt_of_le N3.out.lt hg'.size)
        have RNE : Hid (g3 ≠ g') := Lib.hid (by have := N3.out.lt; rcases hat' with h | h <;> omega)
        have RIN : Hid (∀ z ∈ zs ++ [y], -20 ≤ z ∧ z ≤ 20) := Lib.hid (by
          intro z hz
          rcases List.mem_append.1 hz with h | h
          · exact HIN.out z h
          · simp at h; omega)
        clear hown' hg' hat'
        go_wp2
        go_roundw
        case rel => exact ⟨k + 1, g', c', m + 1, g3, c3, zs3.length, p2, _, zs3, by omega, by go_num, rfl, by omega, RO.out, RIN.out, by omega, RR.out, RG.out, rfl, rfl, hn3, RA.out, RL.out, hg3R, RNE.out⟩
        case measure => simp [intOf]; omega
      · have hok' : (pulV zs' y).2 = false := by simpa using hok
        rw [hok']
        clear hok hok'
        go_wp2_with fail
        go_roundw
        case rel => exact ⟨k + 1, g, d, m, b', d', zs'.length, p2, zs, zs', by omega, by go_num, rfl, by omega, O3.out, HIN.out, by omega, R3.out, G3.out, rfl, rfl, hn8, A3.out, L3.out, hbR', hbg⟩
        case measure => simp [intOf]; omega
    · have t0 := dec_f (show ¬ (k : Int) < (x : Int) by omega)
      have hml := HOW.out.len
      have HML := Lib.hid hml
      have hzl : zs.length ≤ 9 := by omega
      clear hml
      go_wp2_with fail
      refine (pick_any base R p' 12 _ (by omega) (by omega) HR.out).mono ?_
      rintro e w2 ⟨y, rfl, _, hr2, hg2⟩
      have R2 := Lib.hid hr2
      have G2 := Lib.hid (grownBy_trans HG.out hg2)
      have O2 : Hid (OwnM w2 w.heap.size g d m zs) := Lib.hid (OwnV.grown HOW.out hg2 (by intro h; injection h; omega))
      clear hr2 hg2 HR HG HOW
      by_cases hy0 : y = 0
      · subst hy0
        have hpu2 := fun w hr => l92Pulse_any base R (p' + 1) zs'.length w (by omega) (by omega) hr
        have HPU2 := Lib.hid hpu2
        clear hpu2
        go_wp2_with fail
        refine (HPU2.out _ R2.out).mono ?_
        rintro e w3 ⟨v, p3, rfl, hv1, hv2, hp3, hr3, hg3⟩
        have R3 := Lib.hid hr3
        have G3 := Lib.hid (grownBy_trans G2.out hg3)
        have O3 : Hid (OwnM w3 w.heap.size g d m zs) := Lib.hid (OwnV.grown O2.out hg3 (by intro h; injection h; omega))
        clear hr3 hg3
        go_wp2_with (at_builtin; refine wpList_app1i rfl (.tmp 38) (.tmp 43) rfl _ rfl O3.out rfl (by omega) ?_; intro g' c' w' hown' hg' hat')
        have RO := Lib.hid hown'
        have RG := Lib.hid (grownBy_to G3.out hg' O3.out.le)
        have RR := Lib.hid (R3.out.grown hg' (fun g0 h => by injection h with h; subst h; have := O3.out.le; omega))
        have RIN : Hid (∀ z ∈ zs ++ [v], -20 ≤ z ∧ z ≤ 20) := Lib.hid (by
          intro z hz
          rcases List.mem_append.1 hz with h | h
          · exact HIN.out z h
          · simp at h; omega)
        clear hown' hg' hat'
        go_wp2
        go_ret
        have hl2 := RO.out.len
        refine ⟨zs ++ [v], g', c', p3, ret_sl hl2, by simp; omega, RIN.out, ?_, OwnV.cap2 RO.out, RO.out.own.at, RO.out.le, RO.out.lt, by omega, RR.out, RG.out⟩
        have := OwnV.cap RO.out
        omega
      · have t1 := beq_f (show (y : Int) ≠ 0 by omega)
        have t1' : (y == 0) = false := by simpa using hy0
        go_wp2_with fail
        go_ret
        refine ⟨zs, g, d, p' + 1, ret_sl HML.out, by omega, HIN.out, ?_, OwnV.cap2 O2.out, O2.out.own.at, O2.out.le, O2.out.lt, by omega, R2.out, G2.out⟩
        have := OwnV.cap O2.out
        have := HML.out
        omega

def DrawLL (w : World) (e : Ending) (w' : World) : Prop := ∃ (zs ps : List Int) (g c g' c' : Nat), e = .returned (.tuple #[.slice (some ⟨g, 0, none⟩) zs.length c, .slice (some ⟨g', 0, none⟩) ps.length c']) ∧ zs.length ≤ 4 ∧ ps.length ≤ 12 ∧ (∀ z ∈ ps, -20 ≤ z ∧ z ≤ 20) ∧ ps.length ≤ c' ∧ c' ≤ 9223372036854775807 ∧ AtInts w' g 0 zs ∧ g < w'.heap.size ∧ AtInts w' g' 0 ps ∧ g' < w'.heap.size ∧ Below w.heap.size w w'
set_option maxHeartbeats 800000 in
theorem draw_crun (A : Option Addr) (c m : Nat) (w : World) (hmc : m ≤ c) (hc : c ≤ 9223372036854775807) (hr : ByteRow w w.heap.size A m) :
    Calls Try.prog 25 #[.slice A m c] w (DrawLL w) := by
  have HO := Lib.hid (open_any w.heap.size A m c w (Nat.le_refl _) hmc hc hr)
  clear hr
  go_enter Try.func25, Try.ntmps25
  go_wp2_with fail
  refine HO.out.mono ?_
  rintro e w1 ⟨rfl, hr1, hb1⟩
  have HR1 := Lib.hid hr1
  have HB1 := Lib.hid hb1
  clear hr1 hb1 HO
  go_wp2_with fail
  refine (l92Counts_any w.heap.size w.heap.size 0 _ (by omega) HR1.out).mono ?_
  rintro e w2 ⟨zs, g, d, p', rfl, hl, hin, hlc, hc2, hat, hge, hlt, hp', hr2, hg2⟩
  have HA := Lib.hid hat
  have HR2 := Lib.hid hr2
  have HB2 := Lib.hid (below_app HB1.out hg2 (Nat.le_refl _))
  have hgR : g ≠ w.heap.size := by have := HR1.out.lt; omega
  clear hat hin hg2 hge hr2
  go_wp2_with fail
  refine (l92Pulses_any w.heap.size w.heap.size p' g d zs _ (by omega) (by omega) HR2.out HA.out hlt hgR).mono ?_
  rintro e w3 ⟨ps, g3, d3, p3, rfl, hl3, hin3, hlc3, hc3, hat3, hge3, hlt3, _, _, hg3⟩
  have HA3 := Lib.hid (HA.out.grown hg3 hlt (by intro h; injection h; omega))
  have HL3 := Lib.hid (Nat.lt_of_lt_of_le hlt hg3.size)
  have HP3 := Lib.hid hat3
  have HI3 := Lib.hid hin3
  have HB3 := Lib.hid (below_app HB2.out hg3 (Nat.le_refl _))
  clear hg3 hat3 hin3 hge3
  go_wp2_with fail
  go_ret2
  exact ⟨zs, ps, g, d, g3, d3, rfl, hl, hl3, HI3.out, hlc3, hc3, HA3.out, HL3.out, HP3.out, hlt3, HB3.out⟩

end Go.Proofs.Ytgjgedmciiolmaa
