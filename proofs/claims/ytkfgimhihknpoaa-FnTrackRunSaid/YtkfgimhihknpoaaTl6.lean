/-
  The drawing of walks: l92Walk, DrawTrackWalk, DrawTrackPassed. Weak contracts: a short list of short texts. No condition.
-/
import Derived.Test.YtkfgimhihknpoaaTl4
namespace Go.Proofs.Ytkfgimhihknpoaa
open Go.RowKit
set_option linter.unusedVariables false

def DrawnSS (w : World) (base R p k : Nat) (e : Ending) (w' : World) : Prop :=
  ∃ (ss : List Bs) (g c p' : Nat), e = .returned (.slice (some ⟨g, 0, none⟩) ss.length c) ∧ ss.length ≤ 10 ∧ (∀ s ∈ ss, s.size ≤ 15) ∧ ss.length ≤ c ∧ c ≤ 9223372036854775807 ∧ AtStrs w' g 0 ss ∧ w.heap.size ≤ g ∧ g < w'.heap.size ∧ p' ≤ p + k ∧ Rdr w' base R p' ∧ w.grownBy w' (some R)
theorem OwnV.cap2 {w : World} {base e size g c n : Nat} {xs : List Value} (h : OwnV w base e size g c n xs) : c ≤ 9223372036854775807 := by
  obtain ⟨_, cur, _, _, _, h, _⟩ := h.parts
  exact h
theorem Rdr.grown {w w' : World} {base R p : Nat} {row : Option Nat} (h : Rdr w base R p) (hg : w.grownBy w' row) (hr : ∀ g, row = some g → R < g) : Rdr w' base R p := h.keep fun b hb => hg.block b (Nat.lt_of_le_of_lt hb h.lt) (fun e => by have := hr b e.symm; omega)
theorem grownBy_to {w w1 w2 : World} {R g : Nat} (h : w.grownBy w1 (some R)) (h2 : w1.grownBy w2 (some g)) (hg : w.heap.size ≤ g) : w.grownBy w2 (some R) :=
  ⟨h2.os.trans h.os, h2.tape.trans h.tape, h2.output.trans h.output, Nat.le_trans h.size h2.size, fun i hi hne => (h2.block i (Nat.lt_of_lt_of_le hi h.size) (fun e => by injection e; omega)).trans (h.block i hi hne)⟩
theorem grownBy_below {w w1 w2 : World} {R : Nat} (h : w.grownBy w1 (some R)) (h2 : Below w1.heap.size w1 w2) : w.grownBy w2 (some R) :=
  ⟨h2.os.trans h.os, h2.tape.trans h.tape, h2.output.trans h.output, Nat.le_trans h.size h2.size, fun i hi hne => (h2.block i (Nat.lt_of_lt_of_le hi h.size)).trans (h.block i hi hne)⟩
theorem stepV_size (S : ByteArray) (i : Int) : (stepV S i).size ≤ S.size := by
  unfold stepV
  split
  · rw [T_size]; exact Nat.le_refl _
  · exact Nat.zero_le _

set_option maxHeartbeats 3200000 in
theorem l92Walk_any (base R p : Nat) (w : World) (hp : p ≤ 10000) (hr : Rdr w base R p) :
    Calls Try.prog 48 #[.pointer (some ⟨R, 0, none⟩)] w (DrawnSS w base R p 40) := by
  have hRl := hr.lt
  have HR := Lib.hid hr
  clear hr
  go_enter Try.func48, Try.ntmps48
  go_wp2_with fail
  refine (pick_any base R p 5 _ (by omega) (by omega) HR.out).mono ?_
  rintro e w1 ⟨x, rfl, hx, hr1, hg1⟩
  have hx5 : x < 5 := by have := hx (by omega); omega
  have R1 := Lib.hid hr1
  have G1 := Lib.hid hg1
  clear hr1 hg1 hx HR
  have htr := fun w' hr => track_any base R (p + 1) (1 + x) w' (by omega) (by omega) hr
  rw [show ((1 + x : Nat) : Int) = 1 + (x : Int) by omega] at htr
  have HTR := Lib.hid htr
  clear htr
  go_wp2_with fail
  refine (HTR.out _ R1.out).mono ?_
  rintro e w2 ⟨s0, p2, rfl, hs0, hp2, hr2, hg2⟩
  have R2 := Lib.hid (hr2.alloc (.cells #[.string s0] 9))
  have G2 := Lib.hid (grownBy_alloc (grownBy_trans G1.out hg2) (.cells #[.string s0] 9))
  have O2 := Lib.hid (ownSM_one w2 w.heap.size (grownBy_trans G1.out hg2).size s0)
  have hRne : R ≠ w2.heap.size := Nat.ne_of_lt hr2.lt
  clear hr2 hg2
  go_wp2_with fail
  refine (pick_any base R p2 8 _ (by omega) (by omega) R2.out).mono ?_
  rintro e w3 ⟨n, rfl, hn, hr3, hg3⟩
  have hn8 : n < 8 := by have := hn (by omega); omega
  have R3 := Lib.hid hr3
  have G3 := Lib.hid (grownBy_trans G2.out hg3)
  have O3 : Hid (OwnSM w3 w.heap.size w2.heap.size 1 1 [s0]) := Lib.hid (OwnV.grown O2.out hg3 (by intro h; injection h; omega))
  clear hr3 hg3 hn
  go_wp2_with fail
  go_loopw [3, 4, 6] (fun sv v q wr => ∃ (k g d m p' : Nat) (s : Bs) (ss : List Bs), k ≤ n ∧ q = .int .i64 k ∧ sv = .string s ∧ s.size ≤ 15 ∧ v = .slice (some ⟨g, 0, none⟩) m d ∧ m ≤ k + 1 ∧ OwnSM wr w.heap.size g d m ss ∧ (∀ s ∈ ss, s.size ≤ 15) ∧ p' ≤ p + 20 + k ∧ Rdr wr base R p' ∧ w.grownBy wr (some R)) (fun _ _ q _ => n - (intOf q).toNat)
  case atStart => exact ⟨0, _, _, 1, p2 + 1, s0, [s0], by omega, rfl, rfl, by omega, rfl, by omega, O3.out, by simp; omega, by omega, R3.out, G3.out⟩
  case round =>
    clear O3 R3 G3 R2 G2 O2
    obtain ⟨k, g, d, m, p', s, ss, hk, rfl, rfl, hs, rfl, hmk, hown, hin, hp', hr, hg⟩ := hrel
    have HOW := Lib.hid hown
    have HIN := Lib.hid hin
    have HR := Lib.hid hr
    have HG := Lib.hid hg
    have hgR : R ≠ g := by have := hown.le; omega
    have hml := hown.len
    have HML := Lib.hid hml
    have hsl : ss.length ≤ 8 := by omega
    clear hown hin hr hg hml
    by_cases hlt : k < n
    · have t0 := dec_t (show (k : Int) < (n : Int) by omega)
      have hnl := nx_length s s.size
      go_wp2_with fail
      refine (spec_next s _ (by omega)).mono ?_
      rintro e w4 ⟨g4, c4, rfl, ho4, hb4⟩
      have R4 := Lib.hid (HR.out.below hb4 HR.out.lt)
      have G4 := Lib.hid (grownBy_below HG.out hb4)
      have O4 : Hid (OwnSM w4 w.heap.size g d m ss) := Lib.hid (OwnV.below HOW.out hb4 HOW.out.lt)
      have N4 := Lib.hid ho4
      have hg4R : g4 ≠ R := by have := ho4.le; have := HR.out.lt; omega
      clear ho4 hb4
      obtain ⟨L, hL⟩ : ∃ L, nx s s.size = L := ⟨_, rfl⟩
      rw [hL] at N4 hnl ⊢
      clear hL
      by_cases hl0 : L.length = 0
      · have hnil : L = [] := List.eq_nil_of_length_eq_zero hl0
        rw [hnil]
        clear hl0 hnil N4 hnl
        go_wp2_with fail
        go_ret
        refine ⟨ss, g, d, p', ret_sl HML.out, by omega, HIN.out, ?_, OwnV.cap2 O4.out, OwnSM.at O4.out, O4.out.le, O4.out.lt, by omega, R4.out, G4.out⟩
        have := OwnV.cap O4.out
        have := HML.out
        omega
      · have t1 := beq_f (show (L.length : Int) ≠ 0 by omega)
        have t1' : (L.length == 0) = false := by simpa using hl0
        have hst := fun i w => spec_step s i w (by omega)
        have HST := Lib.hid hst
        clear hst
        go_wp2_with fail
        refine (pick_any base R p' L.length _ (by omega) (by omega) R4.out).mono ?_
        rintro e w5 ⟨x5, rfl, hx5', hr5, hg5⟩
        have hxl : x5 < L.length := by have := hx5' (by omega); omega
        have i5 : (x5 : Int) < (L.length : Int) := by omega
        have hc5 := (N4.out.grown hg5 (by intro h; injection h; omega)).at x5 hxl
        rw [Nat.zero_add] at hc5
        obtain ⟨i, hi⟩ : ∃ i, L.getD x5 0 = i := ⟨_, rfl⟩
        rw [hi] at hc5
        have R5 := Lib.hid hr5
        have G5 := Lib.hid (grownBy_trans G4.out hg5)
        have O5 : Hid (OwnSM w5 w.heap.size g d m ss) := Lib.hid (OwnV.grown O4.out hg5 (by intro h; injection h; omega))
        clear hr5 hg5 hx5' hi N4
        go_wp2_with fail
        refine (HST.out i _).mono ?_
        rintro e w6 ⟨rfl, hq6⟩
        have hsv := stepV_size s i
        generalize stepV s i = s6 at *
        generalize stepOk s i = b6 at *
        have hb6 := hq6.below w5.heap.size
        have R6 := Lib.hid (R5.out.below hb6 R5.out.lt)
        have G6 := Lib.hid (grownBy_below G5.out hb6)
        have O6 : Hid (OwnSM w6 w.heap.size g d m ss) := Lib.hid (OwnV.below O5.out hb6 O5.out.lt)
        have hs6 : s6.size ≤ 15 := by omega
        clear hq6 hb6 hsv
        go_wp2_with (at_builtin; refine wpList_app1s rfl (.tmp 40) (.tmp 42) rfl _ rfl O6.out rfl (by omega) ?_; intro g' c' w' hown' hg' hat')
        have RO := Lib.hid hown'
        have RG := Lib.hid (grownBy_to G6.out hg' O6.out.le)
        have RR := Lib.hid (R6.out.grown hg' (fun g0 h => by injection h with h; subst h; have := O6.out.le; omega))
        have RIN : Hid (∀ z ∈ ss ++ [s6], z.size ≤ 15) := Lib.hid (by
          intro z hz
          rcases List.mem_append.1 hz with h | h
          · exact HIN.out z h
          · simp at h; rw [h]; exact hs6)
        clear hown' hg' hat'
        go_wp2
        go_roundw
        case rel => exact ⟨k + 1, g', c', m + 1, p' + 1, s6, _, by omega, by go_num, rfl, hs6, rfl, by omega, RO.out, RIN.out, by omega, RR.out, RG.out⟩
        case measure => simp [intOf]; omega
    · have t0 := dec_f (show ¬ (k : Int) < (n : Int) by omega)
      go_wp2_with fail
      refine (pick_any base R p' 16 _ (by omega) (by omega) HR.out).mono ?_
      rintro e w4 ⟨y, rfl, _, hr4, hg4⟩
      have R4 := Lib.hid hr4
      have G4 := Lib.hid (grownBy_trans HG.out hg4)
      have O4 : Hid (OwnSM w4 w.heap.size g d m ss) := Lib.hid (OwnV.grown HOW.out hg4 (by intro h; injection h; omega))
      clear hr4 hg4 HR HG HOW
      by_cases hy0 : y = 0
      · subst hy0
        go_wp2_with (at_builtin; refine wpList_app1s rfl (.tmp 48) (.tmp 50) rfl _ rfl O4.out rfl (by omega) ?_; intro g' c' w' hown' hg' hat')
        have RO := Lib.hid hown'
        have RG := Lib.hid (grownBy_to G4.out hg' O4.out.le)
        have RR := Lib.hid (R4.out.grown hg' (fun g0 h => by injection h with h; subst h; have := O4.out.le; omega))
        have RIN : Hid (∀ z ∈ ss ++ [s], z.size ≤ 15) := Lib.hid (by
          intro z hz
          rcases List.mem_append.1 hz with h | h
          · exact HIN.out z h
          · simp at h; rw [h]; exact hs)
        clear hown' hg' hat'
        go_wp2
        go_ret
        have hl2 := RO.out.len
        refine ⟨ss ++ [s], g', c', p' + 1, ret_sl hl2, by simp; omega, RIN.out, ?_, OwnV.cap2 RO.out, OwnSM.at RO.out, RO.out.le, RO.out.lt, by omega, RR.out, RG.out⟩
        have := OwnV.cap RO.out
        omega
      · have t1 := beq_f (show (y : Int) ≠ 0 by omega)
        have t1' : (y == 0) = false := by simpa using hy0
        by_cases hy1 : y = 1
        · subst hy1
          have E := Lib.hid (ownSM_empty w4 w.heap.size G4.out.size)
          have EG := Lib.hid (grownBy_alloc G4.out (.cells #[] 9))
          have ER := Lib.hid (R4.out.alloc (.cells #[] 9))
          go_wp2_with fail
          go_ret
          exact ⟨[], _, _, p' + 1, rfl, by simp, by simp, by simp, by omega, OwnSM.at E.out, E.out.le, E.out.lt, by omega, ER.out, EG.out⟩
        · have t2 := beq_f (show (y : Int) ≠ 1 by omega)
          have t2' : (y == 1) = false := by simpa using hy1
          go_wp2_with fail
          go_ret
          refine ⟨ss, g, d, p' + 1, ret_sl HML.out, by omega, HIN.out, ?_, OwnV.cap2 O4.out, OwnSM.at O4.out, O4.out.le, O4.out.lt, by omega, R4.out, G4.out⟩
          have := OwnV.cap O4.out
          have := HML.out
          omega

def DrawSS (w : World) (e : Ending) (w' : World) : Prop := ∃ (ss : List Bs) (g c : Nat), e = .returned (.slice (some ⟨g, 0, none⟩) ss.length c) ∧ ss.length ≤ 10 ∧ (∀ s ∈ ss, s.size ≤ 15) ∧ ss.length ≤ c ∧ c ≤ 9223372036854775807 ∧ AtStrs w' g 0 ss ∧ g < w'.heap.size ∧ Below w.heap.size w w'
set_option maxHeartbeats 400000 in
theorem draw_walk (A : Option Addr) (c m : Nat) (w : World) (hmc : m ≤ c) (hc : c ≤ 9223372036854775807) (hr : ByteRow w w.heap.size A m) :
    Calls Try.prog 25 #[.slice A m c] w (DrawSS w) := by
  have HO := Lib.hid (open_any w.heap.size A m c w (Nat.le_refl _) hmc hc hr)
  clear hr
  go_enter Try.func25, Try.ntmps25
  go_wp2_with fail
  refine HO.out.mono ?_
  rintro e w1 ⟨rfl, hr1, hb1⟩
  have HR1 := Lib.hid hr1
  have HB1 := Lib.hid hb1
  clear hr1 hb1 HO
  go_wp2_with fail
  refine (l92Walk_any w.heap.size w.heap.size 0 _ (by omega) HR1.out).mono ?_
  rintro e w2 ⟨ss, g, d, p', rfl, hl, hin, hlc, hc2, hat, hge, hlt, _, _, hg2⟩
  have HA := Lib.hid hat
  have HIN := Lib.hid hin
  have HB2 := Lib.hid (below_app HB1.out hg2 (Nat.le_refl _))
  clear hat hin hg2 hge
  go_wp2_with fail
  go_ret
  exact ⟨ss, g, d, rfl, hl, HIN.out, hlc, hc2, HA.out, hlt, HB2.out⟩
set_option maxHeartbeats 400000 in
theorem draw_passed (A : Option Addr) (c m : Nat) (w : World) (hmc : m ≤ c) (hc : c ≤ 9223372036854775807) (hr : ByteRow w w.heap.size A m) :
    Calls Try.prog 33 #[.slice A m c] w (DrawSS w) := by
  have HO := Lib.hid (open_any w.heap.size A m c w (Nat.le_refl _) hmc hc hr)
  clear hr
  go_enter Try.func33, Try.ntmps33
  go_wp2_with fail
  refine HO.out.mono ?_
  rintro e w1 ⟨rfl, hr1, hb1⟩
  have HR1 := Lib.hid hr1
  have HB1 := Lib.hid hb1
  clear hr1 hb1 HO
  go_wp2_with fail
  refine (l92Walk_any w.heap.size w.heap.size 0 _ (by omega) HR1.out).mono ?_
  rintro e w2 ⟨ss, g, d, p', rfl, hl, hin, hlc, hc2, hat, hge, hlt, _, _, hg2⟩
  have HA := Lib.hid hat
  have HIN := Lib.hid hin
  have HB2 := Lib.hid (below_app HB1.out hg2 (Nat.le_refl _))
  clear hat hin hg2 hge
  go_wp2_with fail
  go_ret
  exact ⟨ss, g, d, rfl, hl, HIN.out, hlc, hc2, HA.out, hlt, HB2.out⟩

end Go.Proofs.Ytkfgimhihknpoaa
