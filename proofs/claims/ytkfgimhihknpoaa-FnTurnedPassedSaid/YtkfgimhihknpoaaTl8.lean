/-
  The law FnTurnedPassed. No condition.
-/
import Derived.Test.YtkfgimhihknpoaaTl7
namespace Go.Proofs.Ytkfgimhihknpoaa
open Go.RowKit
set_option linter.unusedVariables false

/-- How often the first circuit of the first k tracks was entered. -/
def enK (f : Nat → Nat) : Nat → Nat
  | 0 => 0
  | k + 1 => if k ≠ 0 ∧ (!(f (k - 1)).testBit 0 && (f k).testBit 0) = true then enK f k + 1 else enK f k
theorem enK_le (f : Nat → Nat) (k : Nat) : enK f k ≤ k := by
  induction k with
  | zero => exact Nat.le_refl _
  | succ k ih => simp only [enK]; split <;> omega
theorem ps_back {ss : List Bs} {n m : Nat} {f : Nat → Nat} (h : Wk n f m ss) : psK (bkL n f m m) m = enK f m := by
  obtain ⟨hl, hm, h1, h8, hT, hs⟩ := h
  have hget : ∀ k, k < m → tset ((bkL n f m m).getD k ByteArray.empty) = revT (f (m - 1 - k)) n := by
    intro k hk
    rw [bkL_get n f m m k hk, tset_T _ _ h1 h8 (revT_lt _ _)]
  have hsz : ((bkL n f m m).getD 0 ByteArray.empty).size = n := by rw [bkL_get n f m m 0 hm, T_size]
  have hat : ∀ k, 0 < k → k < m → psAt (bkL n f m m) k = ((f (m - k)).testBit 0 && !(f (m - k - 1)).testBit 0) := by
    intro k h0 hk
    unfold psAt
    rw [hsz, hget k hk, hget (k - 1) (by omega), revT_bit _ _ _ (by omega), revT_bit _ _ _ (by omega), show n - 1 - (n - 1) = 0 by omega, show m - 1 - (k - 1) = m - k by omega, show m - 1 - k = m - k - 1 by omega]
  have key : ∀ j, j < m → psK (bkL n f m m) (j + 1) + enK f (m - j) = enK f m := by
    intro j
    induction j with
    | zero => intro _; simp [psK]
    | succ j ih =>
      intro hj
      have hi := ih (by omega)
      have e1 : m - j = (m - (j + 1)) + 1 := by omega
      rw [e1] at hi
      have e2 : psK (bkL n f m m) (j + 1 + 1) = if j + 1 ≠ 0 ∧ psAt (bkL n f m m) (j + 1) = true then psK (bkL n f m m) (j + 1) + 1 else psK (bkL n f m m) (j + 1) := rfl
      have e3 : enK f ((m - (j + 1)) + 1) = if m - (j + 1) ≠ 0 ∧ (!(f (m - (j + 1) - 1)).testBit 0 && (f (m - (j + 1))).testBit 0) = true then enK f (m - (j + 1)) + 1 else enK f (m - (j + 1)) := rfl
      rw [e2, hat (j + 1) (by omega) hj]
      rw [e3] at hi
      have h0 : m - (j + 1) ≠ 0 := by omega
      by_cases hb : (!(f (m - (j + 1) - 1)).testBit 0 && (f (m - (j + 1))).testBit 0) = true
      · rw [if_pos ⟨h0, hb⟩] at hi
        rw [Bool.and_comm] at hb
        rw [if_pos ⟨by omega, hb⟩]
        omega
      · rw [if_neg (fun h => hb h.2)] at hi
        rw [Bool.and_comm] at hb
        rw [if_neg (fun h => hb h.2)]
        omega
  have hk := key (m - 1) (by omega)
  rw [show m - 1 + 1 = m by omega, show m - (m - 1) = 1 by omega] at hk
  have e4 : enK f 1 = 0 := by simp [enK]
  omega

set_option maxHeartbeats 3200000 in
theorem law_TurnedPassed (A : Option Addr) (c : Nat) (ys : List Int) (w : World) (hq : ArgBytes w A c ys) :
    Calls Try.prog 9 #[.slice A ys.length c] w fun e w' => e = .returned (.bool true) ∧ Below w.heap.size w w' := by
  obtain ⟨hr, hlc, hc⟩ := hq
  by_cases hbig : 1048576 < ys.length
  · have t0 := dec_t (show (1048576 : Int) < (ys.length : Int) by omega)
    go_enter Try.func9, Try.ntmps9
    go_wp2_with fail
    go_ret
    exact ⟨rfl, Below.refl _ _⟩
  have t0 := dec_f (show ¬ (1048576 : Int) < (ys.length : Int) by omega)
  have HD := Lib.hid (draw_passed A c ys.length w hlc hc hr)
  clear hr
  go_enter Try.func9, Try.ntmps9
  go_wp2_with fail
  refine HD.out.mono ?_
  rintro e w1 ⟨ss, g, d, rfl, hl10, hin, hld, hd, hat, hlt, hb1⟩
  have A1 := Lib.hid hat
  have B1 := Lib.hid hb1
  have L1 := Lib.hid hlt
  have HIN := Lib.hid (sizes_ok hin)
  clear hat hb1 hin hlt HD
  go_wp2_with fail
  refine (impl_passed g 0 d ss _ (by omega) hld hd HIN.out L1.out A1.out).mono ?_
  rintro e w2 ⟨rfl, hb2⟩
  have A2 := Lib.hid (A1.out.below hb2 L1.out)
  have L2 := Lib.hid (Nat.lt_of_lt_of_le L1.out hb2.size)
  have B2 := Lib.hid (below_to B1.out hb2 B1.out.size)
  clear hb2 A1 B1 L1
  go_wp2_with fail
  refine (spec_passed g 0 d ss _ (by omega) hld hd HIN.out L2.out A2.out).mono ?_
  rintro e w3 ⟨rfl, hb3⟩
  have A3 := Lib.hid (A2.out.below hb3 L2.out)
  have L3 := Lib.hid (Nat.lt_of_lt_of_le L2.out hb3.size)
  have B3 := Lib.hid (below_to B2.out hb3 B2.out.size)
  clear hb3 A2 B2 L2
  by_cases hv : walkB ss = true
  · obtain ⟨n, f, hwk⟩ := wk_of hv
    have hpv : passV ss = (psK ss ss.length : Int) := by unfold passV; rw [if_pos hv]
    rw [hpv]
    have hpl := psK_le ss ss.length
    generalize psK ss ss.length = P0 at *
    have t9 := dec_f (show ¬ (P0 : Int) < 0 by omega)
    have t9' := dec_t (show (0 : Int) ≤ (P0 : Int) by omega)
    obtain ⟨m, hm⟩ : ∃ m, ss.length = m := ⟨_, rfl⟩
    have HWK := Lib.hid hwk
    have hpos := hwk.2.1
    have h8 := hwk.2.2.2.1
    have h1 := hwk.2.2.1
    have OE := Lib.hid (ownSM_empty w3 w.heap.size B3.out.size)
    have AE : Hid (AtStrs (w3.alloc (.cells #[] 9)) g 0 ss) := Lib.hid (A3.out.keep (Below.heap_alloc w3 _ g L3.out))
    have BE := Lib.hid (below_new' B3.out (.cells #[] 9))
    have LE : Hid (g < (w3.alloc (.cells #[] 9)).heap.size) := Lib.hid (by have := L3.out; simp; omega)
    have hne0 : g ≠ w3.heap.size := Nat.ne_of_lt L3.out
    clear hwk hv hm hpv
    go_wp2_with fail
    go_loopw [6, 7] (fun v q wr => ∃ j g2 d2 : Nat, j ≤ ss.length ∧ q = .int .i64 ((ss.length : Int) - 1 - (j : Int)) ∧ v = .slice (some ⟨g2, 0, none⟩) j d2 ∧ OwnSM wr w.heap.size g2 d2 j (bkL n f ss.length j) ∧ AtStrs wr g 0 ss ∧ g < wr.heap.size ∧ g ≠ g2 ∧ Below w.heap.size w wr) (fun _ q _ => (intOf q + 1).toNat)
    case atStart => exact ⟨0, _, _, by omega, by simp, rfl, OE.out, AE.out, LE.out, hne0, BE.out⟩
    case round =>
      clear OE AE BE LE A3 L3 B3
      obtain ⟨j, g2, d2, hj, rfl, rfl, hown, ha, hl, hne, hbel⟩ := hrel
      have HOW := Lib.hid hown
      have HA := Lib.hid ha
      have HL := Lib.hid hl
      have HBE := Lib.hid hbel
      clear hown ha hl hbel
      by_cases hlt : j < ss.length
      · have hc := HA.out (ss.length - 1 - j) (by omega)
        rw [Nat.zero_add, (HWK.out.2.2.2.2.1 (ss.length - 1 - j) (by omega)).2] at hc
        have hft := (HWK.out.2.2.2.2.1 (ss.length - 1 - j) (by omega)).1
        have hbs := bkL_succ n f ss.length j
        generalize f (ss.length - 1 - j) = x at *
        have htu := fun w => impl_turn x n w h1 h8 hft
        generalize T x n = X at *
        generalize T (revT x n) n = Y at *
        have i1 : (0 : Int) ≤ (ss.length : Int) - 1 - (j : Int) := by omega
        have i2 : (ss.length : Int) - 1 - (j : Int) < (ss.length : Int) := by omega
        have i3 : ((ss.length : Int) - 1 - (j : Int)).toNat = ss.length - 1 - j := by omega
        have HTU := Lib.hid htu
        have HBS := Lib.hid hbs
        clear htu hbs hft
        go_wp2_with fail
        refine (HTU.out _).mono ?_
        rintro e w4 ⟨rfl, hb4⟩
        have O4 : Hid (OwnSM w4 w.heap.size g2 d2 j (bkL n f ss.length j)) := Lib.hid (OwnV.below HOW.out hb4 HOW.out.lt)
        have A4 := Lib.hid (HA.out.below hb4 HL.out)
        have L4 := Lib.hid (Nat.lt_of_lt_of_le HL.out hb4.size)
        have B4 := Lib.hid (below_to HBE.out hb4 HBE.out.size)
        clear hb4
        go_wp2_with (at_builtin; refine wpList_app1s rfl (.tmp 49) (.tmp 51) rfl _ rfl O4.out rfl (by omega) ?_; intro g' c' w' hown' hg' hat')
        have RO : Hid (OwnSM w' w.heap.size g' c' (j + 1) (bkL n f ss.length (j + 1))) := Lib.hid (by rw [HBS.out]; exact hown')
        have RA := Lib.hid (A4.out.grown hg' L4.out (by intro h; injection h; omega))
        have RL := Lib.hid (Nat.lt_of_lt_of_le L4.out hg'.size)
        have RB := Lib.hid (below_app B4.out hg' O4.out.le)
        have RN : Hid (g ≠ g') := Lib.hid (by have := L4.out; rcases hat' with h | h <;> omega)
        clear hown' hg' hat'
        go_wp2
        go_roundw
        case rel => exact ⟨j + 1, g', c', by omega, by go_num, rfl, RO.out, RA.out, RL.out, RN.out, RB.out⟩
        case measure => simp [intOf]; omega
      · obtain rfl : j = ss.length := by omega
        have t1 := dec_f (show ¬ (0 : Int) ≤ (ss.length : Int) - 1 - (ss.length : Int) by omega)
        have hbk := fun w hc ha hb => impl_passed g2 0 d2 (bkL n f ss.length ss.length) w (by rw [bkL_length]; omega) hc (OwnV.cap2 HOW.out) (bkL_sizes n f _ _ h8) hb ha
        have hpb : passV (bkL n f ss.length ss.length) = (enK f ss.length : Int) := by
          unfold passV
          rw [if_pos (of_wk (wk_back HWK.out)), bkL_length, ps_back HWK.out]
        rw [hpb, bkL_length] at hbk
        have HBK := Lib.hid hbk
        have hcap := OwnV.cap HOW.out
        clear hbk hpb
        go_wp2_with fail
        go_loop [10, 11] (fun v q => ∃ k : Nat, 1 ≤ k ∧ k ≤ ss.length ∧ q = .int .i64 k ∧ v = .int .i64 (enK f k)) (fun _ q => ss.length - (intOf q).toNat)
        case atStart => exact ⟨1, by omega, by omega, rfl, rfl⟩
        case round =>
          obtain ⟨k, hk1, hk, rfl, rfl⟩ := hrel
          have hle := enK_le f k
          by_cases hlt : k < ss.length
          · have hcx := HA.out k hlt
            have hcy := HA.out (k - 1) (by omega)
            rw [Nat.zero_add, (HWK.out.2.2.2.2.1 k hlt).2] at hcx
            rw [Nat.zero_add, (HWK.out.2.2.2.2.1 (k - 1) (by omega)).2] at hcy
            have gx := T_get (f k) n 0
            have gy := T_get (f (k - 1)) n 0
            have zx : 1 ≤ (T (f k) n).size := by rw [T_size]; omega
            have zy : 1 ≤ (T (f (k - 1)) n).size := by rw [T_size]; omega
            have hen : enK f (k + 1) = if k ≠ 0 ∧ (!(f (k - 1)).testBit 0 && (f k).testBit 0) = true then enK f k + 1 else enK f k := rfl
            generalize (f k).testBit 0 = bx at *
            generalize (f (k - 1)).testBit 0 = by_ at *
            generalize T (f k) n = X at *
            generalize T (f (k - 1)) n = Y at *
            generalize enK f k = E at *
            have gx := gx (by omega)
            have gy := gy (by omega)
            have i1 : (k : Int) < (ss.length : Int) := by omega
            have i2 : (0 : Int) ≤ (k : Int) - 1 := by omega
            have i3 : (k : Int) - 1 < (ss.length : Int) := by omega
            have i4 : ((k : Int) - 1).toNat = k - 1 := by omega
            have j1 : 0 < X.size := by omega
            have j2 : 0 < Y.size := by omega
            have j3 : (0 : Int) < (X.size : Int) := by omega
            have j4 : (0 : Int) < (Y.size : Int) := by omega
            have hk0 : k ≠ 0 := by omega
            cases by_ with
            | true =>
              have hr : enK f (k + 1) = E := by rw [hen]; simp
              have HR := Lib.hid hr
              rw [if_pos rfl] at gy
              clear hr hen gx hk0
              go_wp2_with fail
              go_round
              case rel => exact ⟨k + 1, by omega, by omega, by go_num, by rw [HR.out]⟩
              case measure => simp [intOf]; omega
            | false =>
              rw [if_neg (by simp)] at gy
              cases bx with
              | true =>
                have hr : enK f (k + 1) = E + 1 := by rw [hen]; simp [hk0]
                have HR := Lib.hid hr
                rw [if_pos rfl] at gx
                clear hr hen hk0
                go_wp2_with fail
                go_round
                case rel => exact ⟨k + 1, by omega, by omega, by go_num, by rw [HR.out]; go_num⟩
                case measure => simp [intOf]; omega
              | false =>
                have hr : enK f (k + 1) = E := by rw [hen]; simp
                have HR := Lib.hid hr
                rw [if_neg (by simp)] at gx
                clear hr hen hk0
                go_wp2_with fail
                go_round
                case rel => exact ⟨k + 1, by omega, by omega, by go_num, by rw [HR.out]⟩
                case measure => simp [intOf]; omega
          · obtain rfl : k = ss.length := by omega
            generalize enK f ss.length = E at *
            go_wp2_with fail
            refine (HBK.out _ hcap (OwnSM.at HOW.out) HOW.out.lt).mono ?_
            rintro e w4 ⟨rfl, hb4⟩
            have B4 := Lib.hid (below_to HBE.out hb4 HBE.out.size)
            clear hb4
            go_wp2_with fail
            go_ret
            exact ⟨rfl, B4.out⟩
  · have hv' : walkB ss = false := by simpa using hv
    have hpv : passV ss = -1 := by unfold passV; rw [if_neg hv]
    rw [hpv]
    clear hv hv' hpv
    go_wp2_with fail
    go_ret
    exact ⟨rfl, B3.out⟩

end Go.Proofs.Ytkfgimhihknpoaa
