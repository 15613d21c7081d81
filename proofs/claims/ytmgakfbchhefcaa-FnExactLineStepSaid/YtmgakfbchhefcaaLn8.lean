/-
  Lines: LineDone of the program and of the reference. No condition.
-/
import Derived.Test.YtmgakfbchhefcaaLnP2
namespace Go.Proofs.Ytmgakfbchhefcaa
open Go.RowKit
set_option linter.unusedVariables false
set_option linter.unusedSimpArgs false

theorem zB_of {bs : List BV} {j : Nat} {n : Int} {i o : Bool} (h : bs.getD j Z3 = (n, i, o)) : zB bs j = decide ((n, i, o) = Z3) := by unfold zB; rw [h]
theorem endB_of {n : Nat} {ts : List Int} {j : Nat} {x : Int} (h : ts.getD j 0 = x) : endB n ts j = decide (x = 2 * (n : Int)) := by unfold endB; rw [h]

set_option maxHeartbeats 1600000 in
theorem l4Done_any (b c t c' : Nat) (bs : List BV) (ts : List Int) (w : World) (hn : bs.length ≤ 1048576) (hm : ts.length ≤ 1048576) (hb : b < w.heap.size) (ht : t < w.heap.size) (ha : AtBl w b 0 bs) (hi : AtInts w t 0 ts) :
    Calls Try.prog 74 #[.agg #[.slice (some ⟨b, 0, none⟩) bs.length c, .slice (some ⟨t, 0, none⟩) ts.length c']] w fun e w' => e = .returned (.bool (allK (zB bs) bs.length && allK (endB bs.length ts) ts.length)) ∧ Below w.heap.size w w' := by
  obtain ⟨V, hV⟩ : ∃ V, (allK (zB bs) bs.length && allK (endB bs.length ts) ts.length) = V := ⟨_, rfl⟩
  have HV := Lib.hid hV
  rw [hV]
  have HL := Lib.hid (LnAt.new (c := c) (c' := c') hb ht ha hi)
  have BW := Lib.hid (below_new w (.cells #[.slice (some ⟨b, 0, none⟩) bs.length c, .slice (some ⟨t, 0, none⟩) ts.length c'] 32))
  have u0 : IntKind.i64.wrap (2 * (bs.length : Int)) = 2 * (bs.length : Int) := IntWalk.i64_in _ (by omega)
  have U0 := Lib.hid u0
  clear hV ha hi u0
  go_enter Try.func74, Try.ntmps74
  go_wp2_with fail
  generalize w.alloc (.cells #[.slice (some ⟨b, 0, none⟩) bs.length c, .slice (some ⟨t, 0, none⟩) ts.length c'] 32) = W1 at *
  have c0 := HL.out.cell0
  have c1 := HL.out.cell1
  go_loop [3] (fun i => ∃ j : Nat, j ≤ bs.length ∧ i = .int .i64 j ∧ allK (zB bs) j = true) (fun i => bs.length - (intOf i).toNat)
  case atStart => exact ⟨0, Nat.zero_le _, rfl, rfl⟩
  case round =>
    obtain ⟨j, hj, rfl, hf⟩ := hrel
    have HF := Lib.hid hf
    clear hf
    by_cases hlt : j < bs.length
    · obtain ⟨p0, p1, p2⟩ := HL.out.2.1.at0 hlt
      have i2 : (j : Int) < (bs.length : Int) := by omega
      obtain ⟨⟨n, i, o⟩, hx⟩ : ∃ x, bs.getD j Z3 = x := ⟨_, rfl⟩
      rw [hx] at p0 p1 p2
      by_cases he : (n, i, o) = Z3
      · have HN := Lib.hid (allK_succ HF.out ((zB_of hx).trans (dec_t he)))
        simp only [Z3, Prod.mk.injEq] at he
        obtain ⟨rfl, rfl, rfl⟩ := he
        clear hx
        go_wp2_with fail
        go_round
        case rel => exact ⟨j + 1, by omega, by go_num, HN.out⟩
        case measure => simp [intOf]; omega
      · have hVf : V = false := HV.out.symm.trans (by rw [allK_no hlt ((zB_of hx).trans (dec_f he))]; rfl)
        subst hVf
        clear hx
        by_cases h0 : n = 0
        · subst h0
          cases i <;> cases o
          case false.false => exact absurd rfl he
          all_goals
            clear he
            go_wp2_with fail
            go_ret
            exact ⟨rfl, BW.out⟩
        · have t1 := beq_f h0
          have t2 := bne_t h0
          clear he h0
          go_wp2_with fail
          go_ret
          exact ⟨rfl, BW.out⟩
    · have hke : j = bs.length := by omega
      have HB := Lib.hid (hke ▸ HF.out)
      clear hke HF
      go_wp2_with fail
      go_loopw [4] (fun i wr => ∃ k m : Nat, k ≤ ts.length ∧ i = .int .i64 k ∧ allK (endB bs.length ts) k = true ∧ wr = W1.drewN m) (fun i _ => ts.length - (intOf i).toNat)
      case atStart => exact ⟨0, 0, Nat.zero_le _, rfl, rfl, rfl⟩
      case round =>
        obtain ⟨k, m, hk, rfl, hf, rfl⟩ := hrel
        have HF := Lib.hid hf
        clear hf
        by_cases hlt2 : k < ts.length
        · have hc := HL.out.2.2.1.at0 hlt2
          have i2 : (k : Int) < (ts.length : Int) := by omega
          obtain ⟨x, hx⟩ : ∃ x, ts.getD k 0 = x := ⟨_, rfl⟩
          rw [hx] at hc
          have u0 := U0.out
          by_cases he : x = 2 * (bs.length : Int)
          · have HN := Lib.hid (allK_succ HF.out ((endB_of hx).trans (dec_t he)))
            have t1 := bne_f he
            clear hx he
            go_wp2_with fail
            go_quiet (fail)
            clear u0
            go_wp2_with fail
            go_roundw
            case rel => exact ⟨k + 1, _, by omega, by go_num, HN.out, rfl⟩
            case measure => simp [intOf]; omega
          · have hVf : V = false := HV.out.symm.trans (by rw [allK_no hlt2 ((endB_of hx).trans (dec_f he))]; simp)
            subst hVf
            have t1 := bne_t he
            clear hx he
            go_wp2_with fail
            go_quiet (fail)
            clear u0
            go_wp2_with fail
            go_ret
            exact ⟨rfl, below_drewN (below_drewN BW.out _) _⟩
        · have hke : k = ts.length := by omega
          have h2 := HF.out
          rw [hke] at h2
          have hVt : V = true := HV.out.symm.trans (by rw [HB.out, h2]; rfl)
          subst hVt
          clear hke h2
          go_wp2_with fail
          go_ret
          exact ⟨rfl, below_drewN BW.out _⟩

theorem count_q (R g d g' d' : Nat) (bs : List BV) (ts : List Int) (p : Int) (w : World) (hm : ts.length ≤ 1048576) (hr : Rw w R g d g' d' bs ts) :
    Calls Try.prog 71 #[.pointer (some ⟨R, 0, none⟩), .int .i64 p] w fun e w' => e = .returned (.int .i64 (cntT ts p ts.length)) ∧ w' = w := (count_any R g d g' d' bs ts p w hm hr).mono fun e w' ⟨h, h'⟩ => ⟨h, h'.symm⟩
theorem Rw.drewN {w : World} {R g d g' d' : Nat} {bs : List BV} {ts : List Int} (h : Rw w R g d g' d' bs ts) (n : Nat) : Rw (w.drewN n) R g d g' d' bs ts := h
theorem RwO.drewN {w : World} {base R g d g' d' : Nat} {bs : List BV} {ts : List Int} (h : RwO w base R g d g' d' bs ts) (n : Nat) : RwO (w.drewN n) base R g d g' d' bs ts := h
set_option maxHeartbeats 1600000 in
theorem implDone_any (b c t c' : Nat) (bs : List BV) (ts : List Int) (w : World) (hn : bs.length ≤ 1048576) (hm : ts.length ≤ 1048576) (hb : b < w.heap.size) (ht : t < w.heap.size) (ha : AtBl w b 0 bs) (hi : AtInts w t 0 ts) :
    Calls Try.prog 35 #[.agg #[.slice (some ⟨b, 0, none⟩) bs.length c, .slice (some ⟨t, 0, none⟩) ts.length c']] w fun e w' => e = .returned (.bool (doneB bs ts)) ∧ Below w.heap.size w w' := by
  have hL := LnAt.new (c := c) (c' := c') hb ht ha hi
  have hrw := railwayOf_any b c t c' bs ts _ hn hm hL.2.2.2.1 hL.2.2.2.2 hL.2.1 hL.2.2.1
  have BW := Lib.hid (below_new w (.cells #[.slice (some ⟨b, 0, none⟩) bs.length c, .slice (some ⟨t, 0, none⟩) ts.length c'] 32))
  clear hL
  by_cases hV : lineB bs ts = true
  · have h5 := lineB_n hV
    rw [hV] at hrw
    have HRW := Lib.hid hrw
    have hcq := fun R g d g' d' W h => count_q R g d g' d' bs ts (2 * (bs.length : Int)) W hm h
    have hec := ends_cnt (n := bs.length) (ts := ts)
    have HVL := Lib.hid hV
    obtain ⟨V, hVV⟩ : ∃ V, doneB bs ts = V := ⟨_, rfl⟩
    have HV := Lib.hid hVV
    rw [hVV]
    have u0 : IntKind.i64.wrap (2 * (bs.length : Int)) = 2 * (bs.length : Int) := IntWalk.i64_in _ (by omega)
    clear hV hrw hVV
    generalize cntT ts (2 * (bs.length : Int)) ts.length = C at *
    have HCQ := Lib.hid hcq
    have HEC := Lib.hid hec
    clear hcq hec
    by_cases hC : C = ts.length
    · have HE := Lib.hid (HEC.out.trans (dec_t hC))
      have t1 := bne_f (show (C : Int) = (ts.length : Int) by omega)
      clear hC
      go_enter Try.func35, Try.ntmps35
      go_wp2_with (first | (go_at_call 51; go_must (go_fit HRW.out; rintro e w2 ⟨p, rfl, hb2, hv2⟩; obtain ⟨R, g, d, g', d', rfl, hr2⟩ := hv2 rfl; have B2 := Lib.hid (below_to BW.out hb2 BW.out.size); have R2 := Lib.hid hr2; have r0 := hr2.cell0; have r1 := hr2.cell1; clear hb2 hv2 hr2)))
      go_quiet ((go_at_call 71; exact Calls.quiet_of_same (HCQ.out _ _ _ _ _ _ R2.out.rw)))
      clear u0 t1
      go_wp2_with fail
      generalize hW3 : w2.drewN nq = W3 at *
      have S3 : Hid (Below w.heap.size w W3 ∧ RwO W3 _ R g d g' d' bs ts) := Lib.hid ⟨hW3 ▸ below_drewN B2.out _, hW3 ▸ R2.out.drewN _⟩
      clear hW3
      go_loopw [6, 35] (fun a i wr => ∃ j : Nat, j ≤ bs.length ∧ i = .int .i64 j ∧ allK (zB bs) j = true ∧ Below W3.heap.size W3 wr) (fun _ i _ => bs.length - (intOf i).toNat)
      case atStart => exact ⟨0, Nat.zero_le _, rfl, rfl, Below.refl _ _⟩
      case round =>
        obtain ⟨j, hj, rfl, hf, hbl⟩ := hrel
        have HF := Lib.hid hf
        have HB := Lib.hid hbl
        have HSZ := Lib.hid hbl.size
        clear hf hbl
        by_cases hlt : j < bs.length
        · obtain ⟨p0, p1, p2⟩ := (S3.out.2.below HB.out).2.1.at.at0 hlt
          have i2 : (j : Int) < (bs.length : Int) := by omega
          obtain ⟨⟨n, i, o⟩, hx⟩ : ∃ x, bs.getD j Z3 = x := ⟨_, rfl⟩
          rw [hx] at p0 p1 p2
          by_cases he : (n, i, o) = Z3
          · have HN := Lib.hid (allK_succ HF.out ((zB_of hx).trans (dec_t he)))
            simp only [Z3, Prod.mk.injEq] at he
            obtain ⟨rfl, rfl, rfl⟩ := he
            clear hx
            go_wp2_with fail
            go_roundw
            case rel => exact ⟨j + 1, by omega, by go_num, HN.out, HB.out.alloc HSZ.out _⟩
            case measure => simp [intOf]; omega
          · have hVf : V = false := HV.out.symm.trans (doneB_f1 hlt ((zB_of hx).trans (dec_f he)))
            subst hVf
            clear hx
            by_cases h0 : n = 0
            · subst h0
              cases i <;> cases o
              case false.false => exact absurd rfl he
              all_goals
                clear he
                go_wp2_with fail
                go_ret
                exact ⟨rfl, below_to S3.out.1 (HB.out.alloc HSZ.out _) S3.out.1.size⟩
            · have t1 := beq_f h0
              have t2 := bne_t h0
              clear he h0
              go_wp2_with fail
              go_ret
              exact ⟨rfl, below_to S3.out.1 (HB.out.alloc HSZ.out _) S3.out.1.size⟩
        · have hke : j = bs.length := by omega
          have h4 := HF.out
          rw [hke] at h4
          have hVt : V = true := HV.out.symm.trans (doneB_t HVL.out h4 HE.out)
          subst hVt
          clear h4 hke
          go_wp2_with fail
          go_ret
          exact ⟨rfl, below_to S3.out.1 HB.out S3.out.1.size⟩
    · have hVf : V = false := HV.out.symm.trans (by unfold doneB; rw [HEC.out, dec_f hC]; simp)
      subst hVf
      have t1 := bne_t (show (C : Int) ≠ (ts.length : Int) by omega)
      clear hC
      go_enter Try.func35, Try.ntmps35
      go_wp2_with (first | (go_at_call 51; go_must (go_fit HRW.out; rintro e w2 ⟨p, rfl, hb2, hv2⟩; obtain ⟨R, g, d, g', d', rfl, hr2⟩ := hv2 rfl; have B2 := Lib.hid (below_to BW.out hb2 BW.out.size); have R2 := Lib.hid hr2; have r0 := hr2.cell0; have r1 := hr2.cell1; clear hb2 hv2 hr2)))
      go_quiet ((go_at_call 71; exact Calls.quiet_of_same (HCQ.out _ _ _ _ _ _ R2.out.rw)))
      go_wp2_with fail
      go_ret
      exact ⟨rfl, below_drewN B2.out _⟩
  · have hV' : lineB bs ts = false := by simpa using hV
    rw [hV'] at hrw
    rw [doneB_f hV']
    have HRW := Lib.hid hrw
    clear hV hV' hrw
    go_enter Try.func35, Try.ntmps35
    go_wp2_with (go_at_call 51; go_must (go_fit HRW.out; rintro e w2 ⟨p, rfl, hb2, hv2⟩; have B2 := Lib.hid (below_to BW.out hb2 BW.out.size); clear hb2 hv2))
    go_quiet (fail)
    go_wp2_with fail
    go_ret
    exact ⟨rfl, below_drewN B2.out _⟩

set_option maxHeartbeats 800000 in
theorem specDone_any (b c t c' : Nat) (bs : List BV) (ts : List Int) (w : World) (hn : bs.length ≤ 1048576) (hm : ts.length ≤ 1048576) (hb : b < w.heap.size) (ht : t < w.heap.size) (ha : AtBl w b 0 bs) (hi : AtInts w t 0 ts) :
    Calls Try.prog 38 #[.agg #[.slice (some ⟨b, 0, none⟩) bs.length c, .slice (some ⟨t, 0, none⟩) ts.length c']] w fun e w' => e = .returned (.bool (doneB bs ts)) ∧ Below w.heap.size w w' := by
  have hL := LnAt.new (c := c) (c' := c') hb ht ha hi
  have hvl := specValid_any b c t c' bs ts _ hn hm hL.2.2.2.1 hL.2.2.2.2 hL.2.1 hL.2.2.1
  have HL := Lib.hid hL
  have BW := Lib.hid (below_new w (.cells #[.slice (some ⟨b, 0, none⟩) bs.length c, .slice (some ⟨t, 0, none⟩) ts.length c'] 32))
  have hd := fun W (h : LnAt W w.heap.size b c t c' bs ts) => l4Done_any b c t c' bs ts W hn hm h.2.2.2.1 h.2.2.2.2 h.2.1 h.2.2.1
  have HST : Hid (∀ W W', (Below w.heap.size w W ∧ LnAt W w.heap.size b c t c' bs ts) → Below W.heap.size W W' → (Below w.heap.size w W' ∧ LnAt W' w.heap.size b c t c' bs ts)) := Lib.hid fun W W' h k => ⟨below_to h.1 k h.1.size, h.2.below k⟩
  unfold doneB
  generalize (allK (zB bs) bs.length && allK (endB bs.length ts) ts.length) = D at *
  have HD := Lib.hid hd
  clear hL hd
  by_cases hV : lineB bs ts = true
  · rw [hV] at hvl ⊢
    have HVL := Lib.hid hvl
    clear hV hvl
    go_enter Try.func38, Try.ntmps38
    go_wp2_with fail
    refine HVL.out.mono ?_
    rintro e w2 ⟨rfl, hb2⟩
    have S2 := Lib.hid (HST.out _ _ ⟨BW.out, HL.out⟩ hb2)
    have c0 := S2.out.2.cell0
    have c1 := S2.out.2.cell1
    clear hb2
    go_wp2_with fail
    refine (HD.out _ S2.out.2).mono ?_
    rintro e w3 ⟨rfl, hb3⟩
    have S3 := Lib.hid (HST.out _ _ S2.out hb3)
    clear hb3 c0 c1
    go_wp2_with fail
    go_ret
    exact ⟨by simp, S3.out.1⟩
  · have hV' : lineB bs ts = false := by simpa using hV
    rw [hV'] at hvl ⊢
    have HVL := Lib.hid hvl
    clear hV hV' hvl
    go_enter Try.func38, Try.ntmps38
    go_wp2_with fail
    refine HVL.out.mono ?_
    rintro e w2 ⟨rfl, hb2⟩
    have S2 := Lib.hid (HST.out _ _ ⟨BW.out, HL.out⟩ hb2)
    clear hb2
    go_wp2_with fail
    go_ret
    exact ⟨by simp, S2.out.1⟩
end Go.Proofs.Ytmgakfbchhefcaa
