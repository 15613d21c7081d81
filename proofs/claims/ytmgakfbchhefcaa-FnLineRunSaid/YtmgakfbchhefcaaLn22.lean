/-
  Lines: DrawLineWaits; the law FnLineWaits. No condition.
-/
import Derived.Test.YtmgakfbchhefcaaLn21
namespace Go.Proofs.Ytmgakfbchhefcaa
open Go.RowKit
set_option linter.unusedVariables false
set_option linter.unusedSimpArgs false

/-- What drawing a line and a box leaves. -/
def DLnK (w : World) (e : Ending) (w' : World) : Prop := ∃ (bs : List BV) (ts : List Int) (g d g' d' x q : Nat), e = .returned (.tuple #[.agg #[.slice (some ⟨g, 0, none⟩) bs.length d, .slice (some ⟨g', 0, none⟩) ts.length d'], .int .i64 ((x : Int) - (q : Int))]) ∧ LnB w' g g' bs ts ∧ bs.length ≤ 4 ∧ ts.length ≤ 5 ∧ x < 6 ∧ q ≤ 1 ∧ Below w.heap.size w w'
/-- The drawn line in a box of its own, the reader, the result's cells. -/
def Dk (w W : World) (R p P g d g' d' : Nat) (bs : List BV) (ts : List Int) : Prop :=
  Below w.heap.size w W ∧ Rdr W w.heap.size R p ∧ Blk W w.heap.size 32 #[.slice none 0 0, .slice none 0 0] ∧ Blk W P 32 #[.slice (some ⟨g, 0, none⟩) bs.length d, .slice (some ⟨g', 0, none⟩) ts.length d'] ∧ LnO W (w.heap.size + 1) g d g' d' bs ts ∧ w.heap.size < R ∧ R ≠ P ∧ R ≠ g ∧ R ≠ g' ∧ w.heap.size < P
theorem Dk.drew {w W : World} {R p P g d g' d' : Nat} {bs : List BV} {ts : List Int} (h : Dk w W R p P g d g' d' bs ts) : Dk w W.drew R p P g d g' d' bs ts := ⟨h.1.drew, h.2.1, h.2.2⟩
theorem Dk.pick {w W W' : World} {R p P g d g' d' : Nat} {bs : List BV} {ts : List Int} (h : Dk w W R p P g d g' d' bs ts) (k : W.grownBy W' (some R)) (hr : Rdr W' w.heap.size R (p + 1)) : Dk w W' R (p + 1) P g d g' d' bs ts := by
  obtain ⟨h1, h2, h3, h4, ⟨h5, h6, h7⟩, h8, h9, h10, h11, h12⟩ := h
  exact ⟨below_app h1 k (by omega), hr, h3.grown k (by intro e; injection e; omega), h4.grown k (by intro e; injection e; omega), ⟨OwnV.grown h5 k (by intro e; injection e; omega), OwnV.grown h6 k (by intro e; injection e; omega), h7⟩, h8, h9, h10, h11, h12⟩
set_option maxHeartbeats 3200000 in
theorem draw_lwaits (A : Option Addr) (c m : Nat) (w : World) (hmc : m ≤ c) (hc : c ≤ 9223372036854775807) (hr : ByteRow w w.heap.size A m) :
    Calls Try.prog 43 #[.slice A m c] w (DLnK w) := by
  have HO := Lib.hid (open_any w.heap.size A m c (w.alloc (.cells #[.slice none 0 0, .slice none 0 0] 32)) (by simp) hmc hc (hr.keep fun b hb => Below.heap_alloc w _ b hb))
  have S1 : Hid (Below w.heap.size w (w.alloc (.cells #[.slice none 0 0, .slice none 0 0] 32)) ∧ Blk (w.alloc (.cells #[.slice none 0 0, .slice none 0 0] 32)) w.heap.size 32 #[.slice none 0 0, .slice none 0 0]) := Lib.hid ⟨below_new w _, Blk.new _ _ _⟩
  clear hr
  go_enter Try.func43, Try.ntmps43
  go_wp2_with fail
  generalize w.alloc (.cells #[.slice none 0 0, .slice none 0 0] 32) = W1 at *
  refine HO.out.mono ?_
  rintro e w2 ⟨rfl, hr2, hb2⟩
  have R2 := Lib.hid hr2
  have B2 := Lib.hid (below_to S1.out.1 hb2 S1.out.1.size)
  have K2 := Lib.hid (S1.out.2.below hb2 S1.out.2.lt)
  have NE : Hid (w.heap.size < W1.heap.size) := Lib.hid S1.out.2.lt
  have NL := Lib.hid hr2.lt
  clear hr2 hb2
  go_wp2_with fail
  refine (l92Line_any w.heap.size W1.heap.size 0 _ (by omega) R2.out).mono ?_
  rintro e w3 ⟨bs, ts, g, d, g', d', q, rfl, ho, hn, hm, hq, hr3, hg3⟩
  have D4 : Hid (Dk w (w3.alloc (.cells #[.slice (some ⟨g, 0, none⟩) bs.length d, .slice (some ⟨g', 0, none⟩) ts.length d'] 32)) W1.heap.size q w3.heap.size g d g' d' bs ts) := Lib.hid (by
    have h1 := NE.out
    have h2 := NL.out
    have h3 := ho.1.le
    have h4 := ho.2.1.le
    have h5 := hr3.lt
    have h6 := K2.out.lt
    exact ⟨below_new' (below_app B2.out hg3 (by omega)) _, hr3.alloc _, (K2.out.grown hg3 (by intro e; injection e; omega)).alloc _, Blk.new _ _ _, ⟨OwnV.alloc (OwnV.mono ho.1 (by omega)) _, OwnV.alloc (OwnV.mono ho.2.1 (by omega)) _, ho.2.2⟩, h1, by omega, by omega, by omega, by omega⟩)
  clear hr3 hg3 ho K2 B2 R2
  go_upto_region 3 with fail
  generalize w3.alloc (.cells #[.slice (some ⟨g, 0, none⟩) bs.length d, .slice (some ⟨g', 0, none⟩) ts.length d'] 32) = W4 at *
  generalize w3.heap.size = P at *
  generalize W1.heap.size = R at *
  obtain ⟨c0, c1, _, _⟩ := blkCells2 D4.out.2.2.2.1
  have hq2 : q ≤ 40 := by omega
  have nP : w.heap.size ≠ P := by have := D4.out.2.2.2.2.2.2.2.2.2; omega
  have nP' : P ≠ w.heap.size := fun e => nP e.symm
  go_region_held3 (fun w' => w'.cell? ⟨P, 0, none⟩ = some (.slice (some ⟨g, 0, none⟩) bs.length d) ∧ w'.cell? ⟨P, 1, none⟩ = some (.slice (some ⟨g', 0, none⟩) ts.length d')) (go_keep) (first | (go_at_call_of 68 (Value.int .i64 6); go_must (go_fit (pick_any w.heap.size R q 6 _ (by omega) (by omega) D4.out.drew.2.1); rintro e w5 ⟨x, rfl, hx, hr5, hg5⟩; have hx6 : x < 6 := (by have := hx (by omega); omega); have D5 := Lib.hid (D4.out.drew.pick hg5 hr5); obtain ⟨d0, d1, _, _⟩ := blkCells2 D5.out.2.2.2.1; clear hx hr5 hg5)) | (go_at_call_of 68 (Value.int .i64 12); go_must (go_fit (pick_any w.heap.size R (q + 1) 12 _ (by omega) (by omega) D5.out.2.1); rintro e w6 ⟨y, rfl, hy, hr6, hg6⟩; have hy12 : y < 12 := (by have := hy (by omega); omega); obtain ⟨z, hz, hz2, hz1⟩ : ∃ z : Nat, Int.tdiv (y : Int) 11 = (z : Int) ∧ (y : Int) / 11 = (z : Int) ∧ z ≤ 1 := ⟨y / 11, (by rw [Int.tdiv_eq_ediv_of_nonneg (by omega)]; rfl), rfl, (by omega)⟩; have uz : IntKind.i64.wrap (z : Int) = (z : Int) := IntWalk.i64_in _ (by omega); have uy : IntKind.i64.wrap ((x : Int) - (z : Int)) = (x : Int) - (z : Int) := IntWalk.i64_in _ (by omega); have D6 := Lib.hid (D5.out.pick hg6 hr6); obtain ⟨e0, e1, _, _⟩ := blkCells2 D6.out.2.2.2.1; obtain ⟨r0, r1, r2, r3⟩ := blkCells2 D6.out.2.2.1; clear hy hr6 hg6)))
  all_goals
    have F := store2 D6.out.1 (Nat.le_refl _) D6.out.2.2.1 (.slice (some ⟨g, 0, none⟩) bs.length d) (.slice (some ⟨g', 0, none⟩) ts.length d')
    have GE : w.heap.size < g ∧ w.heap.size < g' := ⟨D6.out.2.2.2.2.1.1.le, D6.out.2.2.2.2.1.2.1.le⟩
    have G := (D6.out.2.2.2.2.1.far (p := ⟨w.heap.size, 0, none⟩) (by show g ≠ w.heap.size; omega) (by show g' ≠ w.heap.size; omega) (.slice (some ⟨g, 0, none⟩) bs.length d)).far (p := ⟨w.heap.size, 1, none⟩) (by show g ≠ w.heap.size; omega) (by show g' ≠ w.heap.size; omega) (.slice (some ⟨g', 0, none⟩) ts.length d')
    clear c0 c1 d0 d1 e0 e1 r0 r1 r2 r3
    have FF := Lib.hid F
    have GG := Lib.hid G
    clear F G GE
    go_wp2_with fail
    exact bodyPost_ret (v := .tuple #[.agg #[.slice (some ⟨g, 0, none⟩) bs.length d, .slice (some ⟨g', 0, none⟩) ts.length d'], .int .i64 ((x : Int) - (z : Int))]) (by have r0 := FF.out.2.1; have r1 := FF.out.2.2; simp [results, Try.results43, go_sem, r0, r1]) rfl ⟨bs, ts, g, d, g', d', x, z, rfl, LnB.own GG.out.1 GG.out.2.1, hn.2, hm, hx6, hz1, FF.out.1⟩

theorem stepV_parts {bs bs' : List BV} {ts ts' : List Int} {k : Int} {s : ByteArray} (h : stepV bs ts k s = some (bs', ts')) : lineB bs ts = true ∧ ∃ m : Nat, k = (m : Int) ∧ m < bs.length ∧ stepU bs ts m s = some (bs', ts') := by
  unfold stepV at h
  split at h
  · rename_i hv
    unfold stepI at h
    split at h
    · rename_i hk
      exact ⟨hv, k.toNat, (Int.toNat_of_nonneg hk.1).symm, by omega, h⟩
    · cases h
  · cases h
set_option maxRecDepth 100000 in
set_option maxHeartbeats 3200000 in
theorem law_LineWaits (A : Option Addr) (c : Nat) (ys : List Int) (w : World) (hq : ArgBytes w A c ys) :
    Calls Try.prog 12 #[.slice A ys.length c] w fun e w' => e = .returned (.bool true) ∧ Below w.heap.size w w' := by
  obtain ⟨hr, hlc, hc⟩ := hq
  by_cases hbig : 1048576 < ys.length
  · have t0 := dec_t (show (1048576 : Int) < (ys.length : Int) by omega)
    go_enter Try.func12, Try.ntmps12
    go_wp2_with fail
    go_ret
    exact ⟨rfl, Below.refl _ _⟩
  have t0 := dec_f (show ¬ (1048576 : Int) < (ys.length : Int) by omega)
  have HD := Lib.hid (draw_lwaits A c ys.length w hlc hc hr)
  clear hr
  go_enter Try.func12, Try.ntmps12
  go_wp2_with fail
  refine HD.out.mono ?_
  rintro e w1 ⟨bs, ts, g, d, g', d', x, z, rfl, hl, hn, hm, hx, hz, hb1⟩
  obtain ⟨k, hk, hk0, hk5⟩ : ∃ k : Int, (x : Int) - (z : Int) = k ∧ -1 ≤ k ∧ k ≤ 5 := ⟨_, rfl, by omega, by omega⟩
  rw [hk]
  have V1 : Hid (Vr w (w1.alloc (.cells #[.slice (some ⟨g, 0, none⟩) bs.length d, .slice (some ⟨g', 0, none⟩) ts.length d'] 32)) w1.heap.size g d g' d' bs ts) := Lib.hid ⟨below_new' hb1 _, LnAt.of hl⟩
  clear hb1 hl HD hk hx hz
  go_upto_region 4 with fail
  generalize w1.alloc (.cells #[.slice (some ⟨g, 0, none⟩) bs.length d, .slice (some ⟨g', 0, none⟩) ts.length d'] 32) = X1 at *
  generalize w1.heap.size = P at *
  have hwa := fun (W : World) (h : LnAt W P g d g' d' bs ts) => implWaits_any g d g' d' bs ts k W (by omega) (by omega) h.2.2.2.1 h.2.2.2.2 h.2.1 h.2.2.1
  have hsw := fun (W : World) (h : LnAt W P g d g' d' bs ts) => specWaits_any g d g' d' bs ts k W (by omega) (by omega) h.2.2.2.1 h.2.2.2.2 h.2.1 h.2.2.1
  obtain ⟨Wv, hWv⟩ : ∃ v, waitV bs ts k = v := ⟨_, rfl⟩
  rw [hWv] at hwa hsw
  have HWA := Lib.hid hwa
  have HSW := Lib.hid hsw
  have HWV := Lib.hid hWv
  clear hwa hsw hWv
  have c0 := V1.out.2.cell0
  have c1 := V1.out.2.cell1
  go_wp2_with fail
  refine (HWA.out _ V1.out.2).mono ?_
  rintro e w2 ⟨rfl, hb2⟩
  have V2 := Lib.hid (V1.out.step hb2)
  clear hb2 V1 c0 c1
  have c0 := V2.out.2.cell0
  have c1 := V2.out.2.cell1
  go_wp2_with fail
  refine (HSW.out _ V2.out.2).mono ?_
  rintro e w3 ⟨rfl, hb3⟩
  have V3 := Lib.hid (V2.out.step hb3)
  clear hb3 V2 c0 c1
  have c0 := V3.out.2.cell0
  have c1 := V3.out.2.cell1
  have t1 := bne_f (show Wv = Wv from rfl)
  have t1' := beq_t (show Wv = Wv from rfl)
  by_cases hneg : Wv < 0
  · have t2 := dec_t hneg
    clear hneg
    go_wp2_with fail
    go_ret
    exact ⟨rfl, V3.out.1⟩
  · have t2 := dec_f hneg
    have t2' := dec_t (show (0 : Int) ≤ Wv by omega)
    have hst := fun (W : World) (h : LnAt W P g d g' d' bs ts) => implStep_any g d g' d' bs ts k ⟨#[101]⟩ W (by omega) (by omega) (by decide) h.2.2.2.1 h.2.2.2.2 h.2.1 h.2.2.1
    obtain ⟨o, ho⟩ : ∃ o, stepV bs ts k ⟨#[101]⟩ = o := ⟨_, rfl⟩
    rw [ho] at hst
    cases o with
    | none =>
      unfold StepO at hst
      simp only at hst
      have HST := Lib.hid hst
      clear hst ho hneg
      go_wp2_with fail
      refine (HST.out _ V3.out.2).mono ?_
      rintro e w4 ⟨rfl, hb4⟩
      have V4 := Lib.hid (V3.out.step hb4)
      clear hb4 V3 c0 c1
      go_wp2_with fail
      go_ret
      exact ⟨rfl, below_new' V4.out.1 _⟩
    | some p =>
      obtain ⟨bs', ts'⟩ := p
      obtain ⟨hv, m, rfl, hm5, hsu⟩ := stepV_parts ho
      have hv' := step_valid hv hm5 hsu
      have hlen := stepU_len hsu
      obtain ⟨i, hi, hts', hat, hgi, hprev, hcnt⟩ := step_enter hv hm5 hsu
      have hwv := HWV.out
      rw [waitV_t hv (inB_true ⟨by omega, by omega⟩)] at hwv
      rw [hwv] at hcnt
      have hw2 := fun (W : World) (Q h e h' e' : Nat) (a : LnAt W Q h e h' e' bs' ts') => implWaits_any h e h' e' bs' ts' (m : Int) W (by omega) (by omega) a.2.2.2.1 a.2.2.2.2 a.2.1 a.2.2.1
      rw [waitV_t hv' (inB_true ⟨by omega, by omega⟩), hcnt] at hw2
      have hin := fun (W : World) (Q h e h' e' : Nat) (a : LnAt W Q h e h' e' bs' ts') => implIn_any h e h' e' bs' ts' (m : Int) W (by omega) (by omega) a.2.2.2.1 a.2.2.2.2 a.2.1 a.2.2.1
      rw [inV_t hv' (inB_true ⟨by omega, by omega⟩) (by rw [hat]; omega), hat] at hin
      unfold StepO at hst
      simp only at hst
      have HST := Lib.hid hst
      have HW2 := Lib.hid hw2
      have HIN := Lib.hid hin
      have i1 : (i : Int) < (ts.length : Int) := by omega
      have CA : Hid (∀ W, LnAt W P g d g' d' bs ts → W.cell? ⟨g', i, none⟩ = some (.int .i64 (2 * (m : Int)))) := Lib.hid (fun W a => by
        have h1 := a.2.2.1.at0 hi
        rw [hgi] at h1
        exact h1)
      have t3 := beq_t (show Wv - 1 = Wv - 1 from rfl)
      have t4 := beq_t (show (2 : Int) * m = 2 * m from rfl)
      have u1 : IntKind.i64.wrap (Wv - 1) = Wv - 1 := IntWalk.i64_in _ (by have := cntT_le ts (2 * (m : Int)) ts.length; omega)
      have hWb : Wv ≤ 5 := by have := cntT_le ts (2 * (m : Int)) ts.length; omega
      have V3' : Hid (Vr w w3 P g d g' d' bs ts) := V3
      have HI := Lib.hid hi
      have HPR := Lib.hid hprev
      have HLEN := Lib.hid hlen
      clear hlen
      clear hst hw2 hin ho hv hv' hsu hts' hat hgi hprev hcnt hwv hneg hi
      go_wp2_with fail
      refine (HST.out _ V3.out.2).mono ?_
      rintro e w4 ⟨h, f, h', f', rfl, ho, ho', hne, hb4⟩
      have V4 : Hid (Vr w (w4.alloc (.cells #[.slice (some ⟨h, 0, none⟩) bs'.length f, .slice (some ⟨h', 0, none⟩) ts'.length f'] 32)) P g d g' d' bs ts) := Lib.hid ((V3.out.step hb4).step (below_new _ _))
      have Y4 : Hid (LnAt (w4.alloc (.cells #[.slice (some ⟨h, 0, none⟩) bs'.length f, .slice (some ⟨h', 0, none⟩) ts'.length f'] 32)) w4.heap.size h f h' f' bs' ts') := Lib.hid (LnAt.of (LnB.own ho ho'))
      clear hb4 V3 V3' c0 c1 ho ho' hne
      go_upto_region 9 with fail
      generalize w4.alloc (.cells #[.slice (some ⟨h, 0, none⟩) bs'.length f, .slice (some ⟨h', 0, none⟩) ts'.length f'] 32) = X4 at *
      generalize w4.heap.size = Q at *
      have d0 := Y4.out.cell0
      have d1 := Y4.out.cell1
      go_wp2_with fail
      refine (HIN.out _ _ _ _ _ _ Y4.out).mono ?_
      rintro e w5 ⟨rfl, hb5⟩
      have V5 := Lib.hid (V4.out.step hb5)
      have Y5 := Lib.hid (Y4.out.below hb5)
      clear hb5 V4 Y4 d0 d1
      have d0 := Y5.out.cell0
      have d1 := Y5.out.cell1
      go_wp2_with fail
      refine (HW2.out _ _ _ _ _ _ Y5.out).mono ?_
      rintro e w6 ⟨rfl, hb6⟩
      have V6 := Lib.hid (V5.out.step hb6)
      clear hb6 V5 Y5 d0 d1
      have c0 := V6.out.2.cell0
      have c1 := V6.out.2.cell1
      have c2 := CA.out _ V6.out.2
      by_cases hi0 : i = 0
      · subst hi0
        go_wp2_with fail
        go_ret
        exact ⟨rfl, V6.out.1⟩
      · have t5 := beq_f (show (i : Int) ≠ 0 by omega)
        have t5n : (i == 0) = false := by simpa using hi0
        have hpv : 2 * (m : Int) < ts.getD (i - 1) 0 := by
          rcases HPR.out with h | h
          · exact absurd h hi0
          · exact h
        have c3 := V6.out.2.2.2.1.at0 (show i - 1 < ts.length by have := HI.out; omega)
        obtain ⟨v, hv⟩ : ∃ v, ts.getD (i - 1) 0 = v := ⟨_, rfl⟩
        rw [hv] at c3 hpv
        have t6 := dec_t hpv
        have i2 : (0 : Int) ≤ (i : Int) - 1 := by omega
        have i3 : ((i : Int) - 1).toNat = i - 1 := by omega
        have i4 : (i : Int) - 1 < (ts.length : Int) := by omega
        clear hi0 hv
        go_wp2_with fail
        go_ret
        exact ⟨rfl, V6.out.1⟩
end Go.Proofs.Ytmgakfbchhefcaa
