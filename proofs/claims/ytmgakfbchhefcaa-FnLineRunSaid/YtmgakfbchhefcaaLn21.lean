/-
  Lines: DrawLineValid; the law FnLine. No condition.
-/
import Derived.Test.YtmgakfbchhefcaaLn19
import Derived.Test.YtmgakfbchhefcaaLl4
namespace Go.Proofs.Ytmgakfbchhefcaa
open Go.RowKit
set_option linter.unusedVariables false
set_option linter.unusedSimpArgs false

/-- What drawing a line leaves, seen from outside. -/
def DLn (w : World) (e : Ending) (w' : World) : Prop := ∃ (bs : List BV) (ts : List Int) (g d g' d' : Nat), e = .returned (.agg #[.slice (some ⟨g, 0, none⟩) bs.length d, .slice (some ⟨g', 0, none⟩) ts.length d']) ∧ LnB w' g g' bs ts ∧ bs.length ≤ 4 ∧ ts.length ≤ 5 ∧ Below w.heap.size w w'
set_option maxHeartbeats 800000 in
theorem draw_lvalid (A : Option Addr) (c m : Nat) (w : World) (hmc : m ≤ c) (hc : c ≤ 9223372036854775807) (hr : ByteRow w w.heap.size A m) :
    Calls Try.prog 41 #[.slice A m c] w (DLn w) := by
  have HO := Lib.hid (open_any w.heap.size A m c (w.alloc (.cells #[.slice none 0 0, .slice none 0 0] 32)) (by simp) hmc hc (hr.keep fun b hb => Below.heap_alloc w _ b hb))
  have S1 : Hid (Below w.heap.size w (w.alloc (.cells #[.slice none 0 0, .slice none 0 0] 32)) ∧ Blk (w.alloc (.cells #[.slice none 0 0, .slice none 0 0] 32)) w.heap.size 32 #[.slice none 0 0, .slice none 0 0]) := Lib.hid ⟨below_new w _, Blk.new _ _ _⟩
  clear hr
  go_enter Try.func41, Try.ntmps41
  go_wp2_with fail
  generalize w.alloc (.cells #[.slice none 0 0, .slice none 0 0] 32) = W1 at *
  refine HO.out.mono ?_
  rintro e w2 ⟨rfl, hr2, hb2⟩
  have R2 := Lib.hid hr2
  have B2 := Lib.hid (below_to S1.out.1 hb2 S1.out.1.size)
  have K2 := Lib.hid (S1.out.2.below hb2 S1.out.2.lt)
  have NE : Hid (w.heap.size ≠ W1.heap.size) := Lib.hid (by have := S1.out.2.lt; omega)
  clear hr2 hb2
  go_wp2_with fail
  refine (l92Line_any w.heap.size W1.heap.size 0 _ (by omega) R2.out).mono ?_
  rintro e w3 ⟨bs, ts, g, d, g', d', q, rfl, ho, hn, hm, hq, hr3, hg3⟩
  have B3 := Lib.hid (below_app B2.out hg3 S1.out.1.size)
  have K3 := Lib.hid (K2.out.grown hg3 (fun e => NE.out (by injection e)))
  have O3 := Lib.hid ho
  have GE : Hid (w.heap.size < g ∧ w.heap.size < g') := Lib.hid (by have h1 := ho.1.le; have h2 := ho.2.1.le; have h3 := K2.out.lt; omega)
  obtain ⟨c0, c1, f0, f1⟩ := blkCells2 K3.out
  clear hr3 hg3 ho
  go_wp2_with fail
  have F := store2 B3.out (Nat.le_refl _) K3.out (.slice (some ⟨g, 0, none⟩) bs.length d) (.slice (some ⟨g', 0, none⟩) ts.length d')
  have hge := GE.out
  have G := (O3.out.far (p := ⟨w.heap.size, 0, none⟩) (by show g ≠ w.heap.size; omega) (by show g' ≠ w.heap.size; omega) (.slice (some ⟨g, 0, none⟩) bs.length d)).far (p := ⟨w.heap.size, 1, none⟩) (by show g ≠ w.heap.size; omega) (by show g' ≠ w.heap.size; omega) (.slice (some ⟨g', 0, none⟩) ts.length d')
  exact bodyPost_ret (v := .agg #[.slice (some ⟨g, 0, none⟩) bs.length d, .slice (some ⟨g', 0, none⟩) ts.length d']) (by have r0 := F.2.1; have r1 := F.2.2; simp [results, Try.results41, go_sem, r0, r1]) rfl ⟨bs, ts, g, d, g', d', rfl, LnB.own G.1 G.2.1, hn.2, hm, F.1⟩

set_option maxRecDepth 100000 in
set_option maxHeartbeats 3200000 in
theorem law_Line (A : Option Addr) (c : Nat) (ys : List Int) (w : World) (hq : ArgBytes w A c ys) :
    Calls Try.prog 10 #[.slice A ys.length c] w fun e w' => e = .returned (.bool true) ∧ Below w.heap.size w w' := by
  obtain ⟨hr, hlc, hc⟩ := hq
  by_cases hbig : 1048576 < ys.length
  · have t0 := dec_t (show (1048576 : Int) < (ys.length : Int) by omega)
    go_enter Try.func10, Try.ntmps10
    go_wp2_with fail
    go_ret
    exact ⟨rfl, Below.refl _ _⟩
  have t0 := dec_f (show ¬ (1048576 : Int) < (ys.length : Int) by omega)
  have HD := Lib.hid (draw_lvalid A c ys.length w hlc hc hr)
  clear hr
  go_enter Try.func10, Try.ntmps10
  go_wp2_with fail
  refine HD.out.mono ?_
  rintro e w1 ⟨bs, ts, g, d, g', d', rfl, hl, hn, hm, hb1⟩
  have V1 : Hid (Vr w (w1.alloc (.cells #[.slice (some ⟨g, 0, none⟩) bs.length d, .slice (some ⟨g', 0, none⟩) ts.length d'] 32)) w1.heap.size g d g' d' bs ts) := Lib.hid ⟨below_new' hb1 _, LnAt.of hl⟩
  clear hb1 hl HD
  go_upto_region 4 with fail
  generalize w1.alloc (.cells #[.slice (some ⟨g, 0, none⟩) bs.length d, .slice (some ⟨g', 0, none⟩) ts.length d'] 32) = X1 at *
  generalize w1.heap.size = P at *
  have HVL := Lib.hid (fun (W : World) (h : LnAt W P g d g' d' bs ts) => implValid_any g d g' d' bs ts W (by omega) (by omega) h.2.2.2.1 h.2.2.2.2 h.2.1 h.2.2.1)
  have HSP := Lib.hid (fun (W : World) (h : LnAt W P g d g' d' bs ts) => specValid_any g d g' d' bs ts W (by omega) (by omega) h.2.2.2.1 h.2.2.2.2 h.2.1 h.2.2.1)
  have HWA := Lib.hid (fun (k : Int) (W : World) (h : LnAt W P g d g' d' bs ts) => implWaits_any g d g' d' bs ts k W (by omega) (by omega) h.2.2.2.1 h.2.2.2.2 h.2.1 h.2.2.1)
  have HIN := Lib.hid (fun (k : Int) (W : World) (h : LnAt W P g d g' d' bs ts) => implIn_any g d g' d' bs ts k W (by omega) (by omega) h.2.2.2.1 h.2.2.2.2 h.2.1 h.2.2.1)
  obtain ⟨V, hV⟩ : ∃ V, lineB bs ts = V := ⟨_, rfl⟩
  rw [hV] at HVL HSP
  have HV := Lib.hid hV
  clear hV
  have c0 := V1.out.2.cell0
  have c1 := V1.out.2.cell1
  go_wp2_with fail
  refine (HVL.out _ V1.out.2).mono ?_
  rintro e w2 ⟨rfl, hb2⟩
  have V2 := Lib.hid (V1.out.step hb2)
  clear hb2 V1 c0 c1
  have c0 := V2.out.2.cell0
  have c1 := V2.out.2.cell1
  go_wp2_with fail
  refine (HSP.out _ V2.out.2).mono ?_
  rintro e w3 ⟨rfl, hb3⟩
  have V3 := Lib.hid (V2.out.step hb3)
  clear hb3 V2 c0 c1
  cases V with
  | false =>
    go_wp2_with fail
    go_ret
    exact ⟨rfl, V3.out.1⟩
  | true =>
    have hli := lineB_iff.1 HV.out
    obtain ⟨hN, _, _, hpl, hins⟩ := hli
    have hb0 := before_0 (ts := ts) (n := bs.length) (fun k hk => ⟨(hpl k hk).1, (hpl k hk).2.1⟩)
    have hba := before_all (ts := ts) (n := bs.length) (fun k hk => ⟨(hpl k hk).1, (hpl k hk).2.1⟩)
    have HB0 := Lib.hid hb0
    have HBA := Lib.hid hba
    have HINS := Lib.hid hins
    have HPL := Lib.hid hpl
    have hbl : ∀ k, before ts k ≤ ts.length := fun k => cP_le _ _ _
    have HBL := Lib.hid hbl
    clear hb0 hba hins hpl hbl
    go_wp2_with fail
    go_loopw [6, 7] (fun a i wr => ∃ k : Nat, k ≤ bs.length + 1 ∧ i = .int .i64 k ∧ a = .int .i64 (before ts k) ∧ Vr w wr P g d g' d' bs ts) (fun _ i _ => bs.length + 1 - (intOf i).toNat)
    case atStart => exact ⟨0, by omega, rfl, by rw [HB0.out]; rfl, V3.out⟩
    case round =>
      clear V3 HB0
      obtain ⟨k, hk, rfl, rfl, hvr⟩ := hrel
      have V4 := Lib.hid hvr
      have c0 := hvr.2.cell0
      have c1 := hvr.2.cell1
      clear hvr
      have hbk := HBL.out k
      by_cases hlt : k ≤ bs.length
      · have t1 := dec_t (show (k : Int) ≤ (bs.length : Int) by omega)
        have t1n := dec_t hlt
        have hwa := HWA.out (k : Int)
        rw [waitV_t HV.out (inB_true ⟨by omega, by omega⟩)] at hwa
        have hsu := before_succ ts k
        have hcl := cntT_le ts (2 * (k : Int)) ts.length
        have hin := HIN.out (k : Int)
        by_cases hkn : k < bs.length
        · have hi := HINS.out k hkn
          have hib : inB 0 ((bs.length : Int) - 1) (k : Int) = true := inB_true ⟨by omega, by omega⟩
          obtain ⟨b, hbx⟩ : ∃ b, (bs.getD k Z3).2.1 = b := ⟨_, rfl⟩
          have hcell := (V4.out.2.2.1.at0 hkn).2.1
          rw [hbx] at hi hcell
          have hbk2 := HBL.out (k + 1)
          cases b with
          | true =>
            rw [if_pos rfl] at hi
            have hat : 0 ≤ atF ts (2 * (k : Int) + 1) ts.length := atF_cnt.2 (by omega)
            have hsp := atF_spec hat
            rw [inV_t HV.out hib hat] at hin
            obtain ⟨a, ha⟩ : ∃ a : Nat, atF ts (2 * (k : Int) + 1) ts.length = (a : Int) := ⟨_, (Int.toNat_of_nonneg hat).symm⟩
            rw [ha] at hin hsp
            rw [Int.toNat_natCast] at hsp
            have hca := V4.out.2.2.2.1.at0 hsp.1
            rw [hsp.2.1] at hca
            have HW := Lib.hid hwa
            have HI := Lib.hid hin
            have hnew : before ts (k + 1) = before ts k + cntT ts (2 * (k : Int)) ts.length + 1 := by omega
            have HNEW := Lib.hid hnew
            have i1 : (a : Int) < (ts.length : Int) := by omega
            have i2 : (k : Int) < (bs.length : Int) := by omega
            have HA0 := Lib.hid hsp.1
            have t2 := bne_f (show (2 : Int) * k + 1 = 2 * k + 1 from rfl)
            have CA : Hid (∀ W, LnAt W P g d g' d' bs ts → W.cell? ⟨g', a, none⟩ = some (.int .i64 (2 * (k : Int) + 1)) ∧ W.cell? ⟨g, k * 3 + 1, none⟩ = some (.bool true)) := Lib.hid (fun W h => by
              have h1 := h.2.2.1.at0 HA0.out
              rw [hsp.2.1] at h1
              have h2 := (h.2.1.at0 hkn).2.1
              rw [hbx] at h2
              exact ⟨h1, h2⟩)
            generalize cntT ts (2 * (k : Int)) ts.length = Cn at *
            generalize before ts k = Bk at *
            clear hi hbx hcell hat hsp ha hca hwa hin hsu hnew hib
            go_wp2_with fail
            refine (HW.out _ V4.out.2).mono ?_
            rintro e w5 ⟨rfl, hb5⟩
            have V5 := Lib.hid (V4.out.step hb5)
            clear hb5 c0 c1
            have c0 := V5.out.2.cell0
            have c1 := V5.out.2.cell1
            go_wp2_with fail
            refine (HI.out _ V5.out.2).mono ?_
            rintro e w6 ⟨rfl, hb6⟩
            have V6 := Lib.hid (V5.out.step hb6)
            clear hb6 c0 c1
            have c0 := V6.out.2.cell0
            have c1 := V6.out.2.cell1
            obtain ⟨c2, c3⟩ := CA.out _ V6.out.2
            go_wp2_with fail
            go_roundw
            case rel => exact ⟨k + 1, by omega, by go_num, by rw [HNEW.out]; go_num, V6.out⟩
            case measure => simp [intOf]; omega
          | false =>
            rw [if_neg (by simp)] at hi
            have hat : atF ts (2 * (k : Int) + 1) ts.length < 0 := by
              rcases (show atF ts (2 * (k : Int) + 1) ts.length < 0 ∨ 0 ≤ atF ts (2 * (k : Int) + 1) ts.length by omega) with h | h
              · exact h
              · have := atF_cnt.1 h; omega
            rw [inV_m hat] at hin
            have HW := Lib.hid hwa
            have HI := Lib.hid hin
            have hnew : before ts (k + 1) = before ts k + cntT ts (2 * (k : Int)) ts.length := by omega
            have HNEW := Lib.hid hnew
            have i2 : (k : Int) < (bs.length : Int) := by omega
            have CA : Hid (∀ W, LnAt W P g d g' d' bs ts → W.cell? ⟨g, k * 3 + 1, none⟩ = some (.bool false)) := Lib.hid (fun W h => by
              have h2 := (h.2.1.at0 hkn).2.1
              rw [hbx] at h2
              exact h2)
            generalize cntT ts (2 * (k : Int)) ts.length = Cn at *
            generalize before ts k = Bk at *
            clear hi hbx hcell hat hwa hin hsu hnew hib
            go_wp2_with fail
            refine (HW.out _ V4.out.2).mono ?_
            rintro e w5 ⟨rfl, hb5⟩
            have V5 := Lib.hid (V4.out.step hb5)
            clear hb5 c0 c1
            have c0 := V5.out.2.cell0
            have c1 := V5.out.2.cell1
            go_wp2_with fail
            refine (HI.out _ V5.out.2).mono ?_
            rintro e w6 ⟨rfl, hb6⟩
            have V6 := Lib.hid (V5.out.step hb6)
            clear hb6 c0 c1
            have c0 := V6.out.2.cell0
            have c1 := V6.out.2.cell1
            have c3 := CA.out _ V6.out.2
            go_wp2_with fail
            go_roundw
            case rel => exact ⟨k + 1, by omega, by go_num, by rw [HNEW.out]; go_num, V6.out⟩
            case measure => simp [intOf]; omega
        · obtain rfl : k = bs.length := by omega
          have hc2 : cntT ts (2 * (bs.length : Int) + 1) ts.length = 0 := by
            rw [cntT_cP]
            exact cP_none _ (fun j hj => by have := HPL.out j hj; exact decide_eq_false (by omega))
          rw [inV_n (inB_false (by omega))] at hin
          have hnew : before ts (bs.length + 1) = before ts bs.length + cntT ts (2 * (bs.length : Int)) ts.length := by omega
          have HNEW := Lib.hid hnew
          have HW := Lib.hid hwa
          have HI := Lib.hid hin
          have t2 := dec_f (show ¬ (bs.length : Int) < (bs.length : Int) by omega)
          have t2n := dec_f hkn
          generalize cntT ts (2 * (bs.length : Int)) ts.length = Cn at *
          generalize before ts bs.length = Bk at *
          clear hc2 hwa hin hsu hnew hkn
          go_wp2_with fail
          refine (HW.out _ V4.out.2).mono ?_
          rintro e w5 ⟨rfl, hb5⟩
          have V5 := Lib.hid (V4.out.step hb5)
          clear hb5 c0 c1
          have c0 := V5.out.2.cell0
          have c1 := V5.out.2.cell1
          go_wp2_with fail
          refine (HI.out _ V5.out.2).mono ?_
          rintro e w6 ⟨rfl, hb6⟩
          have V6 := Lib.hid (V5.out.step hb6)
          clear hb6 c0 c1
          have c0 := V6.out.2.cell0
          have c1 := V6.out.2.cell1
          go_wp2_with fail
          go_roundw
          case rel => exact ⟨bs.length + 1, by omega, by go_num, by rw [HNEW.out]; go_num, V6.out⟩
          case measure => simp [intOf]
      · obtain rfl : k = bs.length + 1 := by omega
        have t1 := dec_f (show ¬ (((bs.length + 1 : Nat) : Int)) ≤ (bs.length : Int) by omega)
        have t1n := dec_f hlt
        have hba := HBA.out
        rw [hba]
        have t2 := beq_t (show (ts.length : Int) = (ts.length : Int) from rfl)
        clear hba hlt hbk
        go_wp2_with fail
        go_ret
        exact ⟨rfl, V4.out.1⟩
end Go.Proofs.Ytmgakfbchhefcaa
