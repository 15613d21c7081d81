/-
  Lines: LineLeft of the program and of the reference. No condition.
-/
import Derived.Test.YtmgakfbchhefcaaLn8
namespace Go.Proofs.Ytmgakfbchhefcaa
open Go.RowKit
set_option linter.unusedVariables false
set_option linter.unusedSimpArgs false

theorem leftQ_t {q t : Nat} (h : 0 < t) : leftQ q t = if q = 1 then 5 * (t : Int) - 1 else if q = 2 then 5 * (t : Int) - 2 else if q = 3 then 5 * (t : Int) + 2 else if q = 4 then 5 * (t : Int) + 1 else 5 * (t : Int) := by
  unfold leftQ; rw [if_pos h, if_pos h]
set_option maxHeartbeats 1600000 in
theorem blocksLeft_any (g d n k q t : Nat) (w : World) (hn : n ≤ 1048576) (hk : k < n) (hq : q < 5) (ht : t ≤ 1048576) (p0 : w.cell? ⟨g, k * 3, none⟩ = some (.int .i64 (st q).1)) (p1 : w.cell? ⟨g, k * 3 + 1, none⟩ = some (.bool (st q).2.1)) (p2 : w.cell? ⟨g, k * 3 + 2, none⟩ = some (.bool (st q).2.2)) :
    Calls Try.prog 87 #[.slice (some ⟨g, 0, none⟩) n d, .int .i64 k, .int .i64 t] w fun e w' => e = .returned (.int .i64 (leftQ q t)) ∧ Below w.heap.size w w' := by
  have i2 : (k : Int) < (n : Int) := by omega
  have u1 : IntKind.i64.wrap (5 * (t : Int)) = 5 * (t : Int) := IntWalk.i64_in _ (by omega)
  by_cases h0 : 0 < t
  · have t1 := dec_t (show (0 : Int) < (t : Int) by omega)
    have t2 := dec_t h0
    have t3 : (1 : Int) ≤ (t : Int) := by omega
    rw [leftQ_t h0]
    clear h0
    rcases (show q = 0 ∨ q = 1 ∨ q = 2 ∨ q = 3 ∨ q = 4 by omega) with rfl | rfl | rfl | rfl | rfl
    all_goals
      simp only [st] at p0 p1 p2
      go_enter Try.func87, Try.ntmps87
      go_wp2
      go_ret
      exact ⟨by first | rfl | simp, below_new w _⟩
  · have h0' : t = 0 := by omega
    subst h0'
    clear h0 u1
    rcases (show q = 0 ∨ q = 1 ∨ q = 2 ∨ q = 3 ∨ q = 4 by omega) with rfl | rfl | rfl | rfl | rfl
    all_goals
      simp only [st] at p0 p1 p2
      go_enter Try.func87, Try.ntmps87
      go_wp2
      go_ret
      exact ⟨by first | rfl | simp [leftQ], below_new w _⟩

theorem sumL_hid {bs : List BV} {ts : List Int} {k q t : Nat} (h : stN (bs.getD k Z3) = q) (h' : cntL ts (2 * (k : Int)) ts.length = t) : sumL bs ts (k + 1) = sumL bs ts k + leftQ q t := by
  simp only [sumL, leftK, h, h']
set_option maxHeartbeats 3200000 in
theorem leftMoves_any (R g d g' d' : Nat) (bs : List BV) (ts : List Int) (base : Nat) (w : World) (hn : bs.length ≤ 5) (hm : ts.length ≤ 5) (hp : ∀ j, j < bs.length → stN (bs.getD j Z3) < 5) (hr : RwO w base R g d g' d' bs ts) :
    Calls Try.prog 72 #[.pointer (some ⟨R, 0, none⟩)] w fun e w' => e = .returned (.int .i64 (sumL bs ts bs.length)) ∧ Below w.heap.size w w' := by
  have HR := Lib.hid hr
  have HP := Lib.hid hp
  have HS := Lib.hid (sumL_bd bs ts hm)
  have r0 := hr.cell0
  have r1 := hr.cell1
  clear hr hp
  go_enter Try.func72, Try.ntmps72
  go_wp2_with fail
  go_loopw [3, 4, 5, 7, 13] (fun a3 a4 a5 a7 i wr => ∃ k : Nat, k ≤ bs.length ∧ i = .int .i64 k ∧ a3 = .int .i64 (sumL bs ts k) ∧ Below w.heap.size w wr) (fun _ _ _ _ i _ => bs.length - (intOf i).toNat)
  case atStart => exact ⟨0, Nat.zero_le _, rfl, rfl, Below.refl _ _⟩
  case round =>
    obtain ⟨k, hk, rfl, rfl, hbl⟩ := hrel
    have HB := Lib.hid hbl
    have R1 := Lib.hid (HR.out.below hbl)
    have hsb := HS.out k
    have r0 := R1.out.cell0
    have r1 := R1.out.cell1
    clear hbl
    by_cases hlt : k < bs.length
    · have i1 : (k : Int) < (bs.length : Int) := by omega
      have u1 : IntKind.i64.wrap (2 * (k : Int)) = 2 * (k : Int) := IntWalk.i64_in _ (by omega)
      go_wp2_with fail
      go_loop [5, 7, 21] (fun c _ i => ∃ j : Nat, j ≤ ts.length ∧ i = .int .i64 j ∧ c = .int .i64 (cntL ts (2 * (k : Int)) j : Int)) (fun _ _ i => ts.length - (intOf i).toNat)
      case atStart => exact ⟨0, Nat.zero_le _, rfl, rfl⟩
      case round =>
        obtain ⟨j, hj, rfl, rfl⟩ := hrel
        have hle := cntL_le ts (2 * (k : Int)) j
        by_cases hltj : j < ts.length
        · have hc := R1.out.2.2.1.at.at0 hltj
          have i2 : (j : Int) < (ts.length : Int) := by omega
          obtain ⟨x, hx⟩ : ∃ x, ts.getD j 0 = x := ⟨_, rfl⟩
          rw [hx] at hc
          by_cases he : x ≤ 2 * (k : Int)
          · have HE := Lib.hid (cntL_hit hx he)
            have t1 := dec_t he
            clear hx he
            generalize cntL ts (2 * (k : Int)) j = C at *
            go_wp2_with fail
            go_round
            case rel => exact ⟨j + 1, by omega, by go_num, by rw [HE.out]; go_num⟩
            case measure => simp [intOf]; omega
          · have HE := Lib.hid (cntL_no hx he)
            have t1 := dec_f he
            clear hx
            generalize cntL ts (2 * (k : Int)) j = C at *
            go_wp2_with fail
            go_round
            case rel => exact ⟨j + 1, by omega, by go_num, by rw [HE.out]⟩
            case measure => simp [intOf]; omega
        · have hke : j = ts.length := by omega
          subst hke
          obtain ⟨p0, p1, p2⟩ := R1.out.2.1.at.at0 hlt
          have hst := HP.out k hlt
          obtain ⟨q, hq⟩ : ∃ q, stN (bs.getD k Z3) = q := ⟨_, rfl⟩
          rw [hq] at hst
          have hbk := stN_hit hst hq
          rw [hbk] at p0 p1 p2
          obtain ⟨C, hC⟩ : ∃ C, cntL ts (2 * (k : Int)) ts.length = C := ⟨_, rfl⟩
          rw [hC] at hle ⊢
          have hSS := sumL_hid hq hC
          have hsb2 := HS.out (k + 1)
          rw [hSS] at hsb2
          have HSS := Lib.hid hSS
          have hleft := fun W (h : W.cell? ⟨g, k * 3, none⟩ = some (.int .i64 (st q).1) ∧ W.cell? ⟨g, k * 3 + 1, none⟩ = some (.bool (st q).2.1) ∧ W.cell? ⟨g, k * 3 + 2, none⟩ = some (.bool (st q).2.2)) => blocksLeft_any g d bs.length k q C W (by omega) hlt hst (by omega) h.1 h.2.1 h.2.2
          have HPP := Lib.hid (show _ ∧ _ ∧ _ from ⟨p0, p1, p2⟩)
          clear hq hC hSS hbk p0 p1 p2
          generalize leftQ q C = D at *
          generalize sumL bs ts k = E at *
          have HLF := Lib.hid hleft
          clear hleft
          go_wp2_with (go_at_call 87; go_must (go_fit (HLF.out _ HPP.out); rintro e w2 ⟨rfl, hb2⟩; have B2 := Lib.hid (below_to HB.out hb2 HB.out.size); clear hb2))
          go_roundw
          case rel => exact ⟨k + 1, by omega, by go_num, by rw [HSS.out], B2.out⟩
          case measure => simp [intOf]; omega
    · have hke : k = bs.length := by omega
      subst hke
      go_wp2_with fail
      go_ret
      exact ⟨rfl, HB.out⟩
set_option maxHeartbeats 800000 in
theorem implLeft_any (b c t c' : Nat) (bs : List BV) (ts : List Int) (w : World) (hn : bs.length ≤ 1048576) (hm : ts.length ≤ 1048576) (hb : b < w.heap.size) (ht : t < w.heap.size) (ha : AtBl w b 0 bs) (hi : AtInts w t 0 ts) :
    Calls Try.prog 34 #[.agg #[.slice (some ⟨b, 0, none⟩) bs.length c, .slice (some ⟨t, 0, none⟩) ts.length c']] w fun e w' => e = .returned (.int .i64 (leftV bs ts)) ∧ Below w.heap.size w w' := by
  have hL := LnAt.new (c := c) (c' := c') hb ht ha hi
  have hrw := railwayOf_any b c t c' bs ts _ hn hm hL.2.2.2.1 hL.2.2.2.2 hL.2.1 hL.2.2.1
  have BW := Lib.hid (below_new w (.cells #[.slice (some ⟨b, 0, none⟩) bs.length c, .slice (some ⟨t, 0, none⟩) ts.length c'] 32))
  clear hL
  by_cases hV : lineB bs ts = true
  · obtain ⟨h1, h2, h3, _⟩ := lineB_iff.1 hV
    rw [leftV_t hV]
    rw [hV] at hrw
    have HRW := Lib.hid hrw
    have hlm := fun R g d g' d' base W h => leftMoves_any R g d g' d' bs ts base W h1.2 h3 h2 h
    generalize sumL bs ts bs.length = V at *
    have HLM := Lib.hid hlm
    clear hV hrw hlm h2
    go_enter Try.func34, Try.ntmps34
    go_wp2_with (first | (go_at_call 51; go_must (go_fit HRW.out; rintro e w2 ⟨p, rfl, hb2, hv2⟩; obtain ⟨R, g, d, g', d', rfl, hr2⟩ := hv2 rfl; have B2 := Lib.hid (below_to BW.out hb2 BW.out.size); have R2 := Lib.hid hr2; clear hb2 hv2 hr2)) | (go_at_call 72; go_must (go_fit (HLM.out _ _ _ _ _ _ _ R2.out); rintro e w3 ⟨rfl, hb3⟩; have B3 := Lib.hid (below_to B2.out hb3 B2.out.size); clear hb3)))
    go_ret
    exact ⟨rfl, B3.out⟩
  · have hV' : lineB bs ts = false := by simpa using hV
    rw [hV'] at hrw
    rw [leftV_f hV']
    have HRW := Lib.hid hrw
    clear hV hV' hrw
    go_enter Try.func34, Try.ntmps34
    go_wp2_with (go_at_call 51; go_must (go_fit HRW.out; rintro e w2 ⟨p, rfl, hb2, hv2⟩; have B2 := Lib.hid (below_to BW.out hb2 BW.out.size); clear hb2 hv2))
    go_ret
    exact ⟨rfl, B2.out⟩

set_option maxHeartbeats 3200000 in
theorem l4Left_any (b c t c' k q C : Nat) (bs : List BV) (ts : List Int) (w : World) (hn : bs.length ≤ 5) (hm : ts.length ≤ 5) (hb : b < w.heap.size) (ht : t < w.heap.size) (ha : AtBl w b 0 bs) (hi : AtInts w t 0 ts) (hk : k < bs.length) (hq5 : q < 5) (hq : bs.getD k Z3 = st q) (hC : cntL ts (2 * (k : Int)) ts.length = C) :
    Calls Try.prog 77 #[.agg #[.slice (some ⟨b, 0, none⟩) bs.length c, .slice (some ⟨t, 0, none⟩) ts.length c'], .int .i64 k] w fun e w' => e = .returned (.int .i64 (leftQ q C)) ∧ Below w.heap.size w w' := by
  have HL := Lib.hid (LnAt.new (c := c) (c' := c') hb ht ha hi)
  have BW := Lib.hid (below_new w (.cells #[.slice (some ⟨b, 0, none⟩) bs.length c, .slice (some ⟨t, 0, none⟩) ts.length c'] 32))
  have u1 : IntKind.i64.wrap (2 * (k : Int)) = 2 * (k : Int) := IntWalk.i64_in _ (by omega)
  have i1 : (k : Int) < (bs.length : Int) := by omega
  have HQ := Lib.hid hq
  have HC := Lib.hid hC
  clear ha hi hq hC
  go_enter Try.func77, Try.ntmps77
  go_wp2_with fail
  generalize w.alloc (.cells #[.slice (some ⟨b, 0, none⟩) bs.length c, .slice (some ⟨t, 0, none⟩) ts.length c'] 32) = W1 at *
  have c0 := HL.out.cell0
  have c1 := HL.out.cell1
  go_loop [5, 6] (fun m i => ∃ j : Nat, j ≤ ts.length ∧ i = .int .i64 j ∧ m = .int .i64 (cntL ts (2 * (k : Int)) j : Int)) (fun _ i => ts.length - (intOf i).toNat)
  case atStart => exact ⟨0, Nat.zero_le _, rfl, rfl⟩
  case round =>
    obtain ⟨j, hj, rfl, rfl⟩ := hrel
    have hle := cntL_le ts (2 * (k : Int)) j
    by_cases hltj : j < ts.length
    · have hc := HL.out.2.2.1.at0 hltj
      have i2 : (j : Int) < (ts.length : Int) := by omega
      obtain ⟨x, hx⟩ : ∃ x, ts.getD j 0 = x := ⟨_, rfl⟩
      rw [hx] at hc
      by_cases he : x ≤ 2 * (k : Int)
      · have HE := Lib.hid (cntL_hit hx he)
        have t1 := dec_t he
        clear hx he
        generalize cntL ts (2 * (k : Int)) j = D at *
        go_wp2_with fail
        go_round
        case rel => exact ⟨j + 1, by omega, by go_num, by rw [HE.out]; go_num⟩
        case measure => simp [intOf]; omega
      · have HE := Lib.hid (cntL_no hx he)
        have t1 := dec_f he
        clear hx
        generalize cntL ts (2 * (k : Int)) j = D at *
        go_wp2_with fail
        go_round
        case rel => exact ⟨j + 1, by omega, by go_num, by rw [HE.out]⟩
        case measure => simp [intOf]; omega
    · have hke : j = ts.length := by omega
      subst hke
      obtain ⟨p0, p1, p2⟩ := HL.out.2.1.at0 (by omega : k < bs.length)
      rw [HQ.out] at p0 p1 p2
      rw [HC.out] at hle ⊢
      clear u1
      by_cases h0 : 0 < C
      · have t1 := dec_t (show (0 : Int) < (C : Int) by omega)
        have t2 := dec_t h0
        have t3 : (1 : Int) ≤ (C : Int) := by omega
        have H0 := Lib.hid h0
        clear h0
        rcases (show q = 0 ∨ q = 1 ∨ q = 2 ∨ q = 3 ∨ q = 4 by omega) with rfl | rfl | rfl | rfl | rfl
        all_goals
          simp only [st] at p0 p1 p2
          go_wp2_with fail
          go_ret
          exact ⟨ret_int (by rw [leftQ_t H0.out]; rfl), below_to BW.out (below_new W1 _) BW.out.size⟩
      · have h0' : C = 0 := by omega
        subst h0'
        clear h0
        rcases (show q = 0 ∨ q = 1 ∨ q = 2 ∨ q = 3 ∨ q = 4 by omega) with rfl | rfl | rfl | rfl | rfl
        all_goals
          simp only [st] at p0 p1 p2
          go_wp2_with fail
          go_ret
          exact ⟨ret_int (by rfl), below_to BW.out (below_new W1 _) BW.out.size⟩

set_option maxHeartbeats 1600000 in
theorem specLeft_any (b c t c' : Nat) (bs : List BV) (ts : List Int) (w : World) (hn : bs.length ≤ 1048576) (hm : ts.length ≤ 1048576) (hb : b < w.heap.size) (ht : t < w.heap.size) (ha : AtBl w b 0 bs) (hi : AtInts w t 0 ts) :
    Calls Try.prog 42 #[.agg #[.slice (some ⟨b, 0, none⟩) bs.length c, .slice (some ⟨t, 0, none⟩) ts.length c']] w fun e w' => e = .returned (.int .i64 (leftV bs ts)) ∧ Below w.heap.size w w' := by
  have hL := LnAt.new (c := c) (c' := c') hb ht ha hi
  have hvl := specValid_any b c t c' bs ts _ hn hm hL.2.2.2.1 hL.2.2.2.2 hL.2.1 hL.2.2.1
  have HL := Lib.hid hL
  have BW := Lib.hid (below_new w (.cells #[.slice (some ⟨b, 0, none⟩) bs.length c, .slice (some ⟨t, 0, none⟩) ts.length c'] 32))
  have HST : Hid (∀ W W', (Below w.heap.size w W ∧ LnAt W w.heap.size b c t c' bs ts) → Below W.heap.size W W' → (Below w.heap.size w W' ∧ LnAt W' w.heap.size b c t c' bs ts)) := Lib.hid fun W W' h k => ⟨below_to h.1 k h.1.size, h.2.below k⟩
  clear hL
  by_cases hV : lineB bs ts = true
  · obtain ⟨h1, h2, h3, _⟩ := lineB_iff.1 hV
    rw [leftV_t hV]
    rw [hV] at hvl
    have HVL := Lib.hid hvl
    have HS := Lib.hid (sumL_bd bs ts h3)
    have hlf := fun k q C W (hk : k < bs.length) (hq : bs.getD k Z3 = st q) (hq5 : q < 5) (hC : cntL ts (2 * (k : Int)) ts.length = C) (h : LnAt W w.heap.size b c t c' bs ts) => l4Left_any b c t c' k q C bs ts W h1.2 h3 h.2.2.2.1 h.2.2.2.2 h.2.1 h.2.2.1 hk hq5 hq hC
    have HLF := Lib.hid hlf
    have HP := Lib.hid h2
    clear hV hvl h2 hlf
    go_enter Try.func42, Try.ntmps42
    go_wp2_with fail
    refine HVL.out.mono ?_
    rintro e w2 ⟨rfl, hb2⟩
    have S2 := Lib.hid (HST.out _ _ ⟨BW.out, HL.out⟩ hb2)
    clear hb2
    go_wp2_with fail
    go_loopw [3, 4] (fun s i wr => ∃ k : Nat, k ≤ bs.length ∧ i = .int .i64 k ∧ s = .int .i64 (sumL bs ts k) ∧ (Below w.heap.size w wr ∧ LnAt wr w.heap.size b c t c' bs ts)) (fun _ i _ => bs.length - (intOf i).toNat)
    case atStart => exact ⟨0, Nat.zero_le _, rfl, rfl, S2.out⟩
    case round =>
      obtain ⟨k, hk, rfl, rfl, hS⟩ := hrel
      have S3 := Lib.hid hS
      have hsb := HS.out k
      have c0 := hS.2.cell0
      have c1 := hS.2.cell1
      clear hS
      by_cases hlt : k < bs.length
      · have i1 : (k : Int) < (bs.length : Int) := by omega
        have hst := HP.out k hlt
        obtain ⟨q, hq⟩ : ∃ q, stN (bs.getD k Z3) = q := ⟨_, rfl⟩
        rw [hq] at hst
        have hbk := stN_hit hst hq
        obtain ⟨C, hC⟩ : ∃ C, cntL ts (2 * (k : Int)) ts.length = C := ⟨_, rfl⟩
        have hSS := sumL_hid hq hC
        have hsb2 := HS.out (k + 1)
        rw [hSS] at hsb2
        have HSS := Lib.hid hSS
        have HLK := Lib.hid (fun W => HLF.out k q C W hlt hbk hst hC)
        clear hq hC hSS hbk
        generalize leftQ q C = D at *
        generalize sumL bs ts k = E at *
        go_wp2_with (go_at_call 77; go_must (go_fit (HLK.out _ S3.out.2); rintro e w4 ⟨rfl, hb4⟩; have S4 := Lib.hid (HST.out _ _ S3.out hb4); clear hb4))
        go_roundw
        case rel => exact ⟨k + 1, by omega, by go_num, by rw [HSS.out], S4.out⟩
        case measure => simp [intOf]; omega
      · have hke : k = bs.length := by omega
        subst hke
        go_wp2_with fail
        go_ret
        exact ⟨rfl, S3.out.1⟩
  · have hV' : lineB bs ts = false := by simpa using hV
    rw [hV'] at hvl
    rw [leftV_f hV']
    have HVL := Lib.hid hvl
    clear hV hV' hvl
    go_enter Try.func42, Try.ntmps42
    go_wp2_with fail
    refine HVL.out.mono ?_
    rintro e w2 ⟨rfl, hb2⟩
    have S2 := Lib.hid (HST.out _ _ ⟨BW.out, HL.out⟩ hb2)
    clear hb2
    go_wp2_with fail
    go_ret
    exact ⟨rfl, S2.out.1⟩
end Go.Proofs.Ytmgakfbchhefcaa
