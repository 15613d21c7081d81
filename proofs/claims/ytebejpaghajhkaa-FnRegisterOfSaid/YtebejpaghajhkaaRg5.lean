/-
  Registers of the reference: l5Letter, RegisterValid, l5Text, l5Agree, RegisterOffset, RegisterSlack. No condition but lengths that fit.
-/
import Derived.Test.YtebejpaghajhkaaRg4
namespace Go.Proofs.Ytebejpaghajhkaa
open Go.RowKit
set_option linter.unusedVariables false
set_option linter.unusedSimpArgs false

theorem lt_ext : ∀ k, k < 7 → (ByteArray.extract ⟨#[97, 99, 101, 102, 108, 111, 114]⟩ k (k + 1)) = ⟨#[evs.getD k 0]⟩ := by decide
theorem ev_at : ∀ k, k < 7 → evs.contains (evs.getD k 0) = true := by decide
/-- None of the first k letters. -/
def noEv (s : ByteArray) (k : Nat) : Prop := ∀ j, j < k → s ≠ ⟨#[evs.getD j 0]⟩
theorem noEv_all {s : ByteArray} (h : noEv s 7) : evB s = false := by
  unfold evB
  split
  · rename_i c hc
    by_cases hm : evs.contains c = true
    · exfalso
      have hs : s = ⟨#[c]⟩ := by
        obtain ⟨⟨l⟩⟩ := s
        simp at hc
        rw [hc]
      simp [evs] at hm
      rcases hm with rfl | rfl | rfl | rfl | rfl | rfl | rfl
      · exact h 0 (by omega) hs
      · exact h 1 (by omega) hs
      · exact h 2 (by omega) hs
      · exact h 3 (by omega) hs
      · exact h 4 (by omega) hs
      · exact h 5 (by omega) hs
      · exact h 6 (by omega) hs
    · simpa using hm
  · rfl
theorem beq_ba (a b : ByteArray) : (a.toList == b.toList) = decide (a = b) := by
  rw [Bool.eq_iff_iff, beq_iff_eq, decide_eq_true_eq]
  exact ⟨fun h => by rw [ByteArray.toList_eq, ByteArray.toList_eq] at h; exact ba_inj h, fun h => by rw [h]⟩
set_option maxHeartbeats 800000 in
theorem l5Letter_any (s : ByteArray) (w : World) (hs : s.size ≤ 9223372036854775807) : Calls Try.prog 82 #[.string s] w fun e w' => e = .returned (.bool (evB s)) ∧ w = w' := by
  go_enter Try.func82, Try.ntmps82
  go_wp2_with fail
  go_loop [4] (fun i => ∃ k : Nat, k ≤ 7 ∧ i = .int .i64 k ∧ Hid (noEv s k)) (fun i => 7 - (intOf i).toNat)
  case atStart => exact ⟨0, by omega, rfl, Lib.hid (fun j hj => absurd hj (by omega))⟩
  case round =>
    obtain ⟨k, hk, rfl, HN⟩ := hrel
    by_cases hlt : k < 7
    · have hx := lt_ext k hlt
      have hev := ev_at k hlt
      obtain ⟨X, hX⟩ : ∃ X, (ByteArray.extract ⟨#[97, 99, 101, 102, 108, 111, 114]⟩ k (k + 1)) = X := ⟨_, rfl⟩
      by_cases he : X = s
      · have HF : Hid (evB s = true) := Lib.hid (by rw [← he, ← hX, hx]; exact hev)
        clear hx hev
        go_wp2_with fail
        go_ret
        exact ⟨ret_bool HF.out.symm, rfl⟩
      · have HN2 : Hid (noEv s (k + 1)) := Lib.hid (fun j hj => by
          rcases Nat.lt_succ_iff_lt_or_eq.1 hj with hj | rfl
          · exact HN.out j hj
          · rw [← hx, hX]; exact fun h => he h.symm)
        have t0 : (X.toList == s.toList) = false := by rw [beq_ba]; exact dec_f he
        clear hx hev he
        go_wp2_with fail
        go_round
        case rel => exact ⟨k + 1, by omega, by go_num, HN2⟩
        case measure => simp [intOf]; omega
    · obtain rfl : k = 7 := by omega
      have HF : Hid (evB s = false) := Lib.hid (noEv_all HN.out)
      go_wp2_with fail
      go_ret
      exact ⟨ret_bool HF.out.symm, rfl⟩

set_option maxHeartbeats 1600000 in
theorem specRValid_any (A : Option Addr) (c : Nat) (ns : List NV) (w : World) (hn : ns.length ≤ 9223372036854775807) (hsz : ∀ k, k < ns.length → (ns.getD k Z2).2.size ≤ 9223372036854775807) (hr : RdNt w A ns) :
    Calls Try.prog 54 #[.slice A ns.length c] w fun e w' => e = .returned (.bool (regB ns)) ∧ w = w' := by
  have HR := Lib.hid hr
  have HSZ := Lib.hid hsz
  have L0 := Lib.hid (lastM_0 ns)
  have A0 : Hid (allN (okN ns) 0 = true) := Lib.hid rfl
  clear hr hsz
  go_enter Try.func54, Try.ntmps54
  go_wp2_with fail
  go_loop [3, 4] (fun l i => ∃ k : Nat, k ≤ ns.length ∧ i = .int .i64 k ∧ l = .int .i64 (lastM ns k) ∧ Hid (allN (okN ns) k = true)) (fun _ i => ns.length - (intOf i).toNat)
  case atStart => exact ⟨0, Nat.zero_le _, rfl, by rw [L0.out], A0⟩
  case round =>
    clear L0 A0
    obtain ⟨k, hk, rfl, rfl, HA⟩ := hrel
    by_cases hlt : k < ns.length
    · obtain ⟨b, off, rfl, hb, hat⟩ := HR.out (by omega)
      obtain ⟨d0, d1⟩ := hat k hlt
      have hz := HSZ.out k hlt
      have hsc := lastM_succ ns k
      have hok : okN ns k = (inB (lastM ns k) 2000 (ns.getD k Z2).1 && evB (ns.getD k Z2).2) := rfl
      obtain ⟨⟨m, s⟩, hx⟩ : ∃ x, ns.getD k Z2 = x := ⟨_, rfl⟩
      rw [hx] at d0 d1 hz hsc hok
      simp only at d0 d1 hz hsc hok
      have HEV := Lib.hid (fun w => l5Letter_any s w hz)
      obtain ⟨L, hL⟩ : ∃ L, lastM ns k = L := ⟨_, rfl⟩
      rw [hL] at hok ⊢
      have H6 := Lib.hid (fun w => l6In_any m L 2000 w)
      have i1 : (k : Int) < (ns.length : Int) := by omega
      have HSC := Lib.hid hsc
      clear hx hL hsc hz hat
      cases hin : inB L 2000 m with
      | false =>
        have HF : Hid (regB ns = false) := Lib.hid (regB_no hlt (by rw [hok, hin]; rfl))
        rw [hin] at H6
        clear hok hin
        go_wp2_with (go_at_call 65; refine (H6.out _).mono ?_; rintro e w' ⟨rfl, rfl⟩)
        go_ret
        exact ⟨ret_bool HF.out.symm, rfl⟩
      | true =>
        rw [hin] at H6 hok
        rw [Bool.true_and] at hok
        cases hev : evB s with
        | false =>
          have HF : Hid (regB ns = false) := Lib.hid (regB_no hlt (by rw [hok, hev]))
          rw [hev] at HEV
          clear hok hev hin
          go_wp2_with (first | (go_at_call 65; refine (H6.out _).mono ?_; rintro e w' ⟨rfl, rfl⟩) | (go_at_call 82; refine (HEV.out _).mono ?_; rintro e w' ⟨rfl, rfl⟩))
          go_ret
          exact ⟨ret_bool HF.out.symm, rfl⟩
        | true =>
          rw [hev] at HEV hok
          have HA2 : Hid (allN (okN ns) (k + 1) = true) := Lib.hid (allN_succ HA.out hok)
          clear hok hev hin
          go_wp2_with (first | (go_at_call 65; refine (H6.out _).mono ?_; rintro e w' ⟨rfl, rfl⟩) | (go_at_call 82; refine (HEV.out _).mono ?_; rintro e w' ⟨rfl, rfl⟩))
          go_round
          case rel => exact ⟨k + 1, by omega, by go_num, by rw [HSC.out], HA2⟩
          case measure => simp [intOf]; omega
    · obtain rfl : k = ns.length := by omega
      have HF := Lib.hid (regB_all HA.out)
      have e : ((ns.length : Int) ≤ 30) ↔ ns.length ≤ 30 := by omega
      by_cases h30 : ns.length ≤ 30
      · have t0 := dec_t (show (ns.length : Int) ≤ 30 by omega)
        rw [dec_t h30] at HF
        clear e h30
        go_wp2_with fail
        go_ret
        exact ⟨ret_bool HF.out.symm, rfl⟩
      · have t0 := dec_f (show ¬ (ns.length : Int) ≤ 30 by omega)
        rw [dec_f h30] at HF
        clear e h30
        go_wp2_with fail
        go_ret
        exact ⟨ret_bool HF.out.symm, rfl⟩

set_option maxHeartbeats 800000 in
theorem l5Text_any (A : Option Addr) (c : Nat) (ns : List NV) (w : World) (hv : regB ns = true) (hr : RdNt w A ns) :
    Calls Try.prog 62 #[.slice A ns.length c] w fun e w' => e = .returned (.string (txt ns)) ∧ w = w' := by
  have hl := reg_len hv
  have HR := Lib.hid hr
  have HV := Lib.hid hv
  have T0 : Hid (txK ns 0 = ⟨#[]⟩) := Lib.hid rfl
  clear hr hv
  go_enter Try.func62, Try.ntmps62
  go_wp2_with fail
  go_loop [3, 4] (fun s i => ∃ k : Nat, k ≤ ns.length ∧ i = .int .i64 k ∧ s = .string (txK ns k)) (fun _ i => ns.length - (intOf i).toNat)
  case atStart => exact ⟨0, Nat.zero_le _, rfl, by rw [T0.out]⟩
  case round =>
    clear T0
    obtain ⟨k, hk, rfl, rfl⟩ := hrel
    by_cases hlt : k < ns.length
    · obtain ⟨b, off, rfl, hb, hat⟩ := HR.out (by omega)
      obtain ⟨d0, d1⟩ := hat k hlt
      have hz := (reg_bd HV.out k hlt).2
      have hts := txK_size HV.out k hk
      have htx : txK ns (k + 1) = txK ns k ++ (ns.getD k Z2).2 := rfl
      obtain ⟨⟨m, s⟩, hx⟩ : ∃ x, ns.getD k Z2 = x := ⟨_, rfl⟩
      rw [hx] at d0 d1 hz htx
      simp only at d0 d1 hz htx
      have i1 : (k : Int) < (ns.length : Int) := by omega
      have HTX := Lib.hid htx
      have z1 : (txK ns k).size ≤ 30 := by omega
      have z2 : s.size ≤ 1 := by omega
      generalize txK ns k = X at *
      clear hx htx hts hat hz d0
      go_wp2_with fail
      go_round
      case rel => exact ⟨k + 1, by omega, by go_num, by rw [HTX.out]⟩
      case measure => simp [intOf]; omega
    · obtain rfl : k = ns.length := by omega
      have HT : Hid (txK ns ns.length = txt ns) := Lib.hid rfl
      go_wp2_with fail
      go_ret
      exact ⟨ret_str HT.out, rfl⟩

theorem qtN {w w' : World} (h : Qt w w') (n : Nat) : Qt w (w'.drewN n) := by
  obtain ⟨m, rfl⟩ := h
  exact ⟨m + n, by simp [World.drewN, Nat.add_assoc]⟩
theorem l6InN_q (n lo hi : Int) (w : World) : Calls Try.prog 65 #[.int .i64 n, .int .i64 lo, .int .i64 hi] w fun e w' => e = .returned (.bool (inB lo hi n)) ∧ w' = w := (l6In_any n lo hi w).mono fun e w' ⟨h, h'⟩ => ⟨h, h'.symm⟩
set_option maxHeartbeats 1600000 in
theorem l5Agree_any (A : Option Addr) (c : Nat) (A' : Option Addr) (c' : Nat) (xs ys : List NV) (o sl : Int) (w : World) (hv : regB xs = true) (hv' : regB ys = true) (hl : xs.length = ys.length) (ho : -30 ≤ o ∧ o ≤ 30) (hs : 0 ≤ sl ∧ sl ≤ 5) (hr : RdNt w A xs) (hr' : RdNt w A' ys) :
    Calls Try.prog 66 #[.slice A xs.length c, .slice A' ys.length c', .int .i64 o, .int .i64 sl] w fun e w' => e = .returned (.bool (agree xs ys o sl)) ∧ Qt w w' := by
  have h30 := reg_len hv
  have HR := Lib.hid hr
  have HR' := Lib.hid hr'
  have HV := Lib.hid hv
  have HV' := Lib.hid hv'
  have HL := Lib.hid hl
  have u0 : IntKind.i64.wrap (0 - sl) = 0 - sl := IntWalk.i64_in _ (by omega)
  have u0' : IntKind.i64.wrap (-sl) = -sl := IntWalk.i64_in _ (by omega)
  clear hr hr' hv hv' hl
  go_enter Try.func66, Try.ntmps66
  go_wp2_with fail
  go_loopw [9] (fun i wr => ∃ k : Nat, k ≤ xs.length ∧ i = .int .i64 k ∧ Hid (allN (agB xs ys o sl) k = true) ∧ Qt w wr) (fun i _ => xs.length - (intOf i).toNat)
  case atStart => exact ⟨0, Nat.zero_le _, rfl, Lib.hid rfl, 0, rfl⟩
  case round =>
    obtain ⟨k, hk, rfl, HA, hq⟩ := hrel
    have HQ := Lib.hid hq
    clear hq
    by_cases hlt : k < xs.length
    · have hlt' : k < ys.length := by have := HL.out; omega
      obtain ⟨b, off, rfl, hb, hat⟩ := HR.out (by omega)
      obtain ⟨b', off', rfl, hb', hat'⟩ := HR'.out (by omega)
      obtain ⟨d0, _⟩ := hat.below (HQ.out.below _) hb k hlt
      obtain ⟨e0, _⟩ := hat'.below (HQ.out.below _) hb' k hlt'
      have hba := (reg_bd HV.out k hlt).1
      have hbb := (reg_bd HV'.out k hlt').1
      have hag : agB xs ys o sl k = inB (0 - sl) sl ((ys.getD k Z2).1 - (xs.getD k Z2).1 - o) := rfl
      generalize (xs.getD k Z2).1 = p at *
      generalize (ys.getD k Z2).1 = q at *
      have i1 : (k : Int) < (xs.length : Int) := by omega
      have i2 : (k : Int) < (ys.length : Int) := by omega
      have u1 : IntKind.i64.wrap (q - p) = q - p := IntWalk.i64_in _ (by omega)
      have u2 : IntKind.i64.wrap (q - p - o) = q - p - o := IntWalk.i64_in _ (by omega)
      have h6 := fun w => l6InN_q (q - p - o) (0 - sl) sl w
      rw [← hag] at h6
      have e6 : (0 - sl : Int) = -sl := by omega
      cases hgb : agB xs ys o sl k with
      | false =>
        have HF : Hid (agree xs ys o sl = false) := Lib.hid (allN_no hlt hgb)
        rw [hgb, e6] at h6
        have H6 := Lib.hid h6
        clear h6 hag hgb hat hat' hlt hlt' e6
        go_wp2_with fail
        go_quiet (first | (go_at_call 65; exact Calls.quiet_of_same (H6.out _)))
        go_wp2_with fail
        go_ret
        exact ⟨ret_bool HF.out.symm, qtN HQ.out _⟩
      | true =>
        have HA2 : Hid (allN (agB xs ys o sl) (k + 1) = true) := Lib.hid (allN_succ HA.out hgb)
        rw [hgb, e6] at h6
        have H6 := Lib.hid h6
        clear h6 hag hgb hat hat' hlt hlt' e6
        go_wp2_with fail
        go_quiet (first | (go_at_call 65; exact Calls.quiet_of_same (H6.out _)))
        go_wp2_with fail
        go_roundw
        case rel => exact ⟨k + 1, by omega, by go_num, HA2, qtN HQ.out _⟩
        case measure => simp [intOf]; omega
    · obtain rfl : k = xs.length := by omega
      have HF : Hid (agree xs ys o sl = true) := HA
      go_wp2_with fail
      go_ret
      exact ⟨ret_bool HF.out.symm, HQ.out⟩
end Go.Proofs.Ytebejpaghajhkaa
