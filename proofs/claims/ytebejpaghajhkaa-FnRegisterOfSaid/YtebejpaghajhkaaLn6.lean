/-
  Lines: the reference's LineValid. No condition.
-/
import Derived.Test.YtebejpaghajhkaaLn5
namespace Go.Proofs.Ytebejpaghajhkaa
open Go.RowKit
set_option linter.unusedVariables false
set_option linter.unusedSimpArgs false

theorem qt_trans {a b c : World} (h : Qt a b) (k : Qt b c) : Qt a c := by
  obtain ⟨n, rfl⟩ := h
  obtain ⟨m, rfl⟩ := k
  exact ⟨_, World.drewN_drewN _ _ _⟩
/-- A line in a variable at block L. -/
def LnAt (w : World) (L b c t c' : Nat) (bs : List BV) (ts : List Int) : Prop :=
  Blk w L 68 #[.slice (some ⟨b, 0, none⟩) bs.length c, .slice (some ⟨t, 0, none⟩) ts.length c'] ∧ AtBl w b 0 bs ∧ AtInts w t 0 ts ∧ b < w.heap.size ∧ t < w.heap.size
section
variable {w w' : World} {L b c t c' : Nat} {bs : List BV} {ts : List Int}
theorem LnAt.below (h : LnAt w L b c t c' bs ts) (hb : Below w.heap.size w w') : LnAt w' L b c t c' bs ts :=
  ⟨h.1.below hb h.1.lt, h.2.1.below hb h.2.2.2.1, h.2.2.1.below hb h.2.2.2.2, Nat.lt_of_lt_of_le h.2.2.2.1 hb.size, Nat.lt_of_lt_of_le h.2.2.2.2 hb.size⟩
theorem LnAt.cell0 (h : LnAt w L b c t c' bs ts) : w.cell? ⟨L, 0, none⟩ = some (.slice (some ⟨b, 0, none⟩) bs.length c) := by
  have := h.1.cell 0
  simpa using this
theorem LnAt.cell1 (h : LnAt w L b c t c' bs ts) : w.cell? ⟨L, 1, none⟩ = some (.slice (some ⟨t, 0, none⟩) ts.length c') := by
  have := h.1.cell 1
  simpa using this
theorem LnAt.new (hb : b < w.heap.size) (ht : t < w.heap.size) (ha : AtBl w b 0 bs) (hi : AtInts w t 0 ts) : LnAt (w.alloc (.cells #[.slice (some ⟨b, 0, none⟩) bs.length c, .slice (some ⟨t, 0, none⟩) ts.length c'] 68)) w.heap.size b c t c' bs ts :=
  ⟨Blk.new _ _ _, ha.below (below_new w _) hb, hi.below (below_new w _) ht, Nat.lt_of_lt_of_le hb (below_new w _).size, Nat.lt_of_lt_of_le ht (below_new w _).size⟩
end

theorem l6In_q (n lo hi : Int) (w : World) : Calls Try.prog 65 #[.int .i64 n, .int .i64 lo, .int .i64 hi] w fun e w' => e = .returned (.bool (inB lo hi n)) ∧ w' = w := (l6In_any n lo hi w).mono fun e w' ⟨h, h'⟩ => ⟨h, h'.symm⟩
set_option maxHeartbeats 3200000 in
theorem specValid_any (b c t c' : Nat) (bs : List BV) (ts : List Int) (w : World) (hn : bs.length ≤ 1048576) (hm : ts.length ≤ 1048576) (hb : b < w.heap.size) (ht : t < w.heap.size) (ha : AtBl w b 0 bs) (hi : AtInts w t 0 ts) :
    Calls Try.prog 93 #[.agg #[.slice (some ⟨b, 0, none⟩) bs.length c, .slice (some ⟨t, 0, none⟩) ts.length c']] w fun e w' => e = .returned (.bool (lineB bs ts)) ∧ Below w.heap.size w w' := by
  obtain ⟨V, hV⟩ : ∃ V, lineB bs ts = V := ⟨_, rfl⟩
  have HV := Lib.hid hV
  rw [hV]
  clear hV
  have hL := LnAt.new (c := c) (c' := c') hb ht ha hi
  have h6 := fun w => l6In_any (bs.length : Int) 1 5 w
  have HL := Lib.hid hL
  clear hL ha hi
  by_cases hr : inB 1 5 (bs.length : Int) = true
  · rw [hr] at h6
    have H6 := Lib.hid h6
    have hn5 : bs.length ≤ 5 := by have := inB_iff.1 hr; omega
    clear h6
    by_cases ht5 : ts.length ≤ 5
    · have t5 := dec_f (show ¬ (5 : Int) < (ts.length : Int) by omega)
      have t5n := dec_f (show ¬ 5 < ts.length by omega)
      go_enter Try.func93, Try.ntmps93
      go_wp2_with (go_at_call 65; go_must (go_fit (H6.out _); rintro e w2 ⟨rfl, rfl⟩))
      have BW := Lib.hid (below_new w (.cells #[.slice (some ⟨b, 0, none⟩) bs.length c, .slice (some ⟨t, 0, none⟩) ts.length c'] 68))
      generalize w.alloc (.cells #[.slice (some ⟨b, 0, none⟩) bs.length c, .slice (some ⟨t, 0, none⟩) ts.length c'] 68) = W1 at *
      clear H6
      go_loopw [4] (fun i wr => ∃ k : Nat, k ≤ ts.length ∧ i = .int .i64 k ∧ Qt W1 wr ∧ allK (plcB bs.length ts) k = true) (fun i _ => ts.length - (intOf i).toNat)
      case atStart => exact ⟨0, Nat.zero_le _, rfl, ⟨0, rfl⟩, rfl⟩
      case round =>
        obtain ⟨k, hk, rfl, hq, hpk⟩ := hrel
        have HPK := Lib.hid hpk
        have HQ := Lib.hid hq
        have LW := Lib.hid (HL.out.below (hq.below _))
        have c0 := LW.out.cell0
        have c1 := LW.out.cell1
        clear hpk hq
        by_cases hlt : k < ts.length
        · have hc := LW.out.2.2.1.at0 hlt
          have i1 : (k : Int) < (ts.length : Int) := by omega
          have i1n : k < ts.length := hlt
          obtain ⟨x, hx⟩ : ∃ x, ts.getD k 0 = x := ⟨_, rfl⟩
          rw [hx] at hc
          have u2 : IntKind.i64.wrap (2 * (bs.length : Int)) = 2 * (bs.length : Int) := IntWalk.i64_in _ (by omega)
          have h6 := fun w => l6In_q x 0 (2 * (bs.length : Int)) w
          by_cases h1 : 0 ≤ x ∧ x ≤ 2 * (bs.length : Int)
          · rw [inB_true h1] at h6
            have H6 := Lib.hid h6
            clear h6
            by_cases hk0 : k = 0
            · have HN := Lib.hid (allK_succ HPK.out (plcB_t0 (n := bs.length) hx h1 hk0))
              have t3 := dec_f (show ¬ (0 : Int) < (k : Int) by omega)
              have t3n := dec_f (show ¬ 0 < k by omega)
              clear hx hk0 h1
              go_wp2_with fail
              go_quiet (first | (go_at_call 65; exact Calls.quiet_of_same (H6.out _)))
              go_wp2_with fail
              go_roundw
              case rel => exact ⟨k + 1, by omega, by go_num, qt_trans HQ.out ⟨_, rfl⟩, HN.out⟩
              case measure => simp [intOf]; omega
            · have hcy := LW.out.2.2.1.at0 (show k - 1 < ts.length by omega)
              obtain ⟨y, hy⟩ : ∃ y, ts.getD (k - 1) 0 = y := ⟨_, rfl⟩
              rw [hy] at hcy
              have t3 := dec_t (show (0 : Int) < (k : Int) by omega)
              have t3n := dec_t (show 0 < k by omega)
              have i2 : (0 : Int) ≤ (k : Int) - 1 := by omega
              have i3 : (k : Int) - 1 < (ts.length : Int) := by omega
              by_cases h3 : y < x
              · have hVf : V = false := HV.out.symm.trans (lineB_f3 hlt (plcB_f2 hx hy hk0 h3))
                subst hVf
                have t4 := dec_t h3
                clear hx hy h1
                go_wp2_with fail
                go_quiet (first | (go_at_call 65; exact Calls.quiet_of_same (H6.out _)))
                go_wp2_with fail
                go_ret
                exact ⟨rfl, below_to BW.out ((qt_trans HQ.out ⟨_, rfl⟩).below W1.heap.size) BW.out.size⟩
              · have HN := Lib.hid (allK_succ HPK.out (plcB_t1 (n := bs.length) hx hy h1 (by omega)))
                have t4 := dec_f h3
                clear hx hy h1
                go_wp2_with fail
                go_quiet (first | (go_at_call 65; exact Calls.quiet_of_same (H6.out _)))
                go_wp2_with fail
                go_roundw
                case rel => exact ⟨k + 1, by omega, by go_num, qt_trans HQ.out ⟨_, rfl⟩, HN.out⟩
                case measure => simp [intOf]; omega
          · have h1' : x < 0 ∨ 2 * (bs.length : Int) < x := by omega
            rw [inB_false h1'] at h6
            have H6 := Lib.hid h6
            have hVf : V = false := HV.out.symm.trans (lineB_f3 hlt (plcB_f1 hx h1'))
            subst hVf
            clear h6 hx h1 h1'
            go_wp2_with fail
            go_quiet (first | (go_at_call 65; exact Calls.quiet_of_same (H6.out _)))
            go_wp2_with fail
            go_ret
            exact ⟨rfl, below_to BW.out ((qt_trans HQ.out ⟨_, rfl⟩).below W1.heap.size) BW.out.size⟩
        · have hke : k = ts.length := by omega
          have h3 := HPK.out
          rw [hke] at h3
          have H3 := Lib.hid h3
          have BQ := Lib.hid (HQ.out.below W1.heap.size)
          clear h3 HPK hke HQ LW
          go_wp2_with fail
          clear c0 c1
          generalize wr = wq at *
          go_loopw [5, 6, 7] (fun a5 a6 a7 wr => ∃ k : Nat, k ≤ bs.length ∧ a5 = .int .i64 k ∧ Below W1.heap.size W1 wr ∧ possK bs k = true ∧ allK (insB bs ts) k = true) (fun a5 _ _ _ => bs.length - (intOf a5).toNat)
          case atStart => exact ⟨0, Nat.zero_le _, rfl, BQ.out, rfl, rfl⟩
          case round =>
            obtain ⟨j, hj, rfl, hbel, hpo, hin⟩ := hrel
            have HB := Lib.hid hbel
            have HPO := Lib.hid hpo
            have HIN := Lib.hid hin
            have LW := Lib.hid (HL.out.below hbel)
            have c0 := LW.out.cell0
            have c1 := LW.out.cell1
            clear hbel hpo hin
            by_cases hlt : j < bs.length
            · have i1 : (j : Int) < (bs.length : Int) := by omega
              go_wp2_with fail
              go_loop [6, 7] (fun q i => ∃ k : Nat, k ≤ ts.length ∧ i = .int .i64 k ∧ q = .int .i64 (cntT ts (2 * (j : Int) + 1) k : Int)) (fun _ i => ts.length - (intOf i).toNat)
              case atStart => exact ⟨0, Nat.zero_le _, rfl, rfl⟩
              case round =>
                obtain ⟨k, hk, rfl, rfl⟩ := hrel
                have hle := cntT_le ts (2 * (j : Int) + 1) k
                by_cases hltk : k < ts.length
                · have hc := LW.out.2.2.1.at0 hltk
                  have i2 : (k : Int) < (ts.length : Int) := by omega
                  obtain ⟨x, hx⟩ : ∃ x, ts.getD k 0 = x := ⟨_, rfl⟩
                  rw [hx] at hc
                  by_cases he : x = 2 * (j : Int) + 1
                  · have HE : Hid (cntT ts (2 * (j : Int) + 1) (k + 1) = cntT ts (2 * (j : Int) + 1) k + 1) := Lib.hid (by simp only [cntT, hx, he, if_true])
                    have t1 := beq_t he
                    clear hx he
                    generalize cntT ts (2 * (j : Int) + 1) k = C at *
                    go_wp2_with fail
                    go_round
                    case rel => exact ⟨k + 1, by omega, by go_num, by rw [HE.out]; go_num⟩
                    case measure => simp [intOf]; omega
                  · have HE : Hid (cntT ts (2 * (j : Int) + 1) (k + 1) = cntT ts (2 * (j : Int) + 1) k) := Lib.hid (by simp only [cntT, hx, he, if_false, Nat.add_zero])
                    have t1 := beq_f he
                    clear hx
                    generalize cntT ts (2 * (j : Int) + 1) k = C at *
                    go_wp2_with fail
                    go_round
                    case rel => exact ⟨k + 1, by omega, by go_num, by rw [HE.out]⟩
                    case measure => simp [intOf]; omega
                · have hke : k = ts.length := by omega
                  subst hke
                  obtain ⟨p0, p1, p2⟩ := LW.out.2.1.at0 hlt
                  have hins : insB bs ts j = decide ((cntT ts (2 * (j : Int) + 1) ts.length : Int) = if (bs.getD j Z3).2.1 then 1 else 0) := rfl
                  have HF := Lib.hid (fun h => HV.out.symm.trans (lineB_f4 hlt h))
                  have hF2 : possB (bs.getD j Z3) = false → V = false := fun h => HV.out.symm.trans (lineB_f1 (by rw [possK_no hlt h]; simp))
                  have hT2 : possB (bs.getD j Z3) = true → possK bs (j + 1) = true := fun h => by simp only [possK, HPO.out, h, Bool.and_self]
                  have HT := Lib.hid (fun h => allK_succ HIN.out (p := insB bs ts) (k := j) h)
                  obtain ⟨x, hx⟩ : ∃ x, bs.getD j Z3 = x := ⟨_, rfl⟩
                  rw [hx] at p0 p1 p2 hins hF2 hT2
                  generalize cntT ts (2 * (j : Int) + 1) ts.length = C at *
                  obtain ⟨xn, xi, xo⟩ := x
                  simp only at p0 p1 p2 hins
                  have hpo := fun w => specPoss_any xn xi xo w
                  have hst : ∀ w', Below wr.heap.size wr w' → Below W1.heap.size W1 w' ∧ LnAt w' w.heap.size b c t c' bs ts := fun w' h => ⟨below_to HB.out h HB.out.size, LW.out.below h⟩
                  have HST := Lib.hid hst
                  have hBV : ∀ w', LnAt w' w.heap.size b c t c' bs ts → w'.cell? ⟨b, j * 3 + 1, none⟩ = some (.bool xi) := fun w' h => by have := (h.2.1.at0 hlt).2.1; rw [hx] at this; exact this
                  have HBV := Lib.hid hBV
                  clear hst hBV hx hle
                  by_cases hpb : possB (xn, xi, xo) = true
                  · rw [hpb] at hpo
                    have HP2 := Lib.hid hpo
                    have HPK := Lib.hid (hT2 hpb)
                    clear hpo hF2 hT2 hpb
                    by_cases hC2 : 1 < C
                    · have hVf := HF.out (by rw [hins]; refine dec_f ?_; split <;> omega)
                      subst hVf
                      have t1 := dec_t (show (1 : Int) < (C : Int) by omega)
                      have t1n := dec_t hC2
                      clear hins
                      go_wp2_with (go_at_call 89; go_must (go_fit (HP2.out _); rintro e w2 ⟨rfl, hb2⟩; have B2 := Lib.hid (HST.out _ hb2).1; have L2 := Lib.hid (HST.out _ hb2).2; have e0 := L2.out.cell0; have e1 := L2.out.cell1; have e2 := HBV.out _ L2.out; clear hb2 c0 c1 p0 p1 p2))
                      go_ret
                      exact ⟨rfl, below_to BW.out B2.out BW.out.size⟩
                    · have t1 := dec_f (show ¬ (1 : Int) < (C : Int) by omega)
                      have t1n := dec_f hC2
                      rcases (show C = 0 ∨ C = 1 by omega) with rfl | rfl
                      all_goals cases xi
                      case inl.true | inr.false =>
                        have hVf := HF.out (by rw [hins]; rfl)
                        subst hVf
                        clear hins t1 t1n
                        go_wp2_with (go_at_call 89; go_must (go_fit (HP2.out _); rintro e w2 ⟨rfl, hb2⟩; have B2 := Lib.hid (HST.out _ hb2).1; have L2 := Lib.hid (HST.out _ hb2).2; have e0 := L2.out.cell0; have e1 := L2.out.cell1; have e2 := HBV.out _ L2.out; clear hb2 c0 c1 p0 p1 p2))
                        go_ret
                        exact ⟨rfl, below_to BW.out B2.out BW.out.size⟩
                      case inl.false | inr.true =>
                        have HN := Lib.hid (HT.out (by rw [hins]; rfl))
                        clear hins t1 t1n
                        go_wp2_with (go_at_call 89; go_must (go_fit (HP2.out _); rintro e w2 ⟨rfl, hb2⟩; have B2 := Lib.hid (HST.out _ hb2).1; have L2 := Lib.hid (HST.out _ hb2).2; have e0 := L2.out.cell0; have e1 := L2.out.cell1; have e2 := HBV.out _ L2.out; clear hb2 c0 c1 p0 p1 p2))
                        go_roundw
                        case rel => exact ⟨j + 1, by omega, by go_num, B2.out, HPK.out, HN.out⟩
                        case measure => simp [intOf]; omega
                  · have hpb' : possB (xn, xi, xo) = false := by simpa using hpb
                    rw [hpb'] at hpo
                    have HP2 := Lib.hid hpo
                    have hVf := hF2 hpb'
                    subst hVf
                    clear hpo hF2 hT2 hpb hpb' hins
                    go_wp2_with (go_at_call 89; go_must (go_fit (HP2.out _); rintro e w2 ⟨rfl, hb2⟩; have B2 := Lib.hid (HST.out _ hb2).1; have L2 := Lib.hid (HST.out _ hb2).2; have e0 := L2.out.cell0; have e1 := L2.out.cell1; have e2 := HBV.out _ L2.out; clear hb2 c0 c1 p0 p1 p2))
                    go_ret
                    exact ⟨rfl, below_to BW.out B2.out BW.out.size⟩
            · have hke : j = bs.length := by omega
              have h4 := HIN.out
              have h5 := HPO.out
              rw [hke] at h4 h5
              have hVt : V = true := HV.out.symm.trans (lineB_mk (by rw [hr, h5]; rfl) ht5 H3.out h4)
              subst hVt
              clear h4 h5 hke
              go_wp2_with fail
              go_ret
              exact ⟨rfl, below_to BW.out HB.out BW.out.size⟩
    · have hVf : V = false := HV.out.symm.trans (lineB_f2 ht5)
      subst hVf
      have t5 := dec_t (show (5 : Int) < (ts.length : Int) by omega)
      have t5n := dec_t (show 5 < ts.length by omega)
      go_enter Try.func93, Try.ntmps93
      go_wp2_with (go_at_call 65; go_must (go_fit (H6.out _); rintro e w2 ⟨rfl, rfl⟩))
      go_ret
      exact ⟨rfl, below_new w _⟩
  · have hr' : inB 1 5 (bs.length : Int) = false := by simpa using hr
    rw [hr'] at h6
    have H6 := Lib.hid h6
    have hVf : V = false := HV.out.symm.trans (lineB_f1 (by rw [hr']; rfl))
    subst hVf
    clear h6
    go_enter Try.func93, Try.ntmps93
    go_wp2_with (go_at_call 65; go_must (go_fit (H6.out _); rintro e w2 ⟨rfl, rfl⟩))
    go_ret
    exact ⟨rfl, below_new w _⟩
end Go.Proofs.Ytebejpaghajhkaa
