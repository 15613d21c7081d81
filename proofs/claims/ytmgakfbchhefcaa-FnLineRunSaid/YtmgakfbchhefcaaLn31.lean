/-
  Lines: the law FnLineRun. No condition.
-/
import Derived.Test.YtmgakfbchhefcaaLn30
import Derived.Test.YtmgakfbchhefcaaLn28
import Derived.Test.YtmgakfbchhefcaaLn26
import Derived.Deep.DeepCutAuto
namespace Go.Proofs.Ytmgakfbchhefcaa
open Go.RowKit
set_option linter.unusedVariables false
set_option linter.unusedSimpArgs false

/-- The line, the moves. -/
def Vm (w W : World) (P g d g' d' : Nat) (bs : List BV) (ts : List Int) (a : Nat) (ms : List MV) : Prop := Below w.heap.size w W ∧ LnAt W P g d g' d' bs ts ∧ AtMv W a 0 ms ∧ a < W.heap.size
theorem Vm.step {w W W' : World} {P g d g' d' : Nat} {bs : List BV} {ts : List Int} {a : Nat} {ms : List MV} (h : Vm w W P g d g' d' bs ts a ms) (b : Below W.heap.size W W') : Vm w W' P g d g' d' bs ts a ms := ⟨below_to h.1 b h.1.size, h.2.1.below b, h.2.2.1.below b h.2.2.2, Nat.lt_of_lt_of_le h.2.2.2 b.size⟩
theorem AtMv.takeN {W : World} {a off : Nat} {ms : List MV} (h : AtMv W a off ms) (n : Nat) : AtMv W a off (ms.take n) := fun k hk => by
  rw [List.length_take] at hk
  have e : (ms.take n).getD k Z2m = ms.getD k Z2m := by
    rw [List.getD_eq_getElem?_getD, List.getElem?_take_of_lt (by omega), ← List.getD_eq_getElem?_getD]
  rw [e]
  exact h k (by omega)
theorem AtMv.dropN {W : World} {a : Nat} {ms : List MV} (h : AtMv W a 0 ms) (n : Nat) : AtMv W a (n * 2) (ms.drop n) := fun k hk => by
  rw [List.length_drop] at hk
  have e : (ms.drop n).getD k Z2m = ms.getD (n + k) Z2m := by
    rw [List.getD_eq_getElem?_getD, List.getElem?_drop, ← List.getD_eq_getElem?_getD]
  rw [e]
  have := h (n + k) (by omega)
  rw [Nat.zero_add, show (n + k) * 2 = n * 2 + k * 2 by omega] at this
  exact this
theorem ShortL.takeN {ms : List MV} (h : ShortL ms) (n : Nat) : ShortL (ms.take n) := fun k hk => by
  rw [List.length_take] at hk
  have e : (ms.take n).getD k Z2m = ms.getD k Z2m := by
    rw [List.getD_eq_getElem?_getD, List.getElem?_take_of_lt (by omega), ← List.getD_eq_getElem?_getD]
  rw [e]
  exact h k (by omega)
theorem ShortL.dropN {ms : List MV} (h : ShortL ms) (n : Nat) : ShortL (ms.drop n) := fun k hk => by
  rw [List.length_drop] at hk
  have e : (ms.drop n).getD k Z2m = ms.getD (n + k) Z2m := by
    rw [List.getD_eq_getElem?_getD, List.getElem?_drop, ← List.getD_eq_getElem?_getD]
  rw [e]
  exact h (n + k) (by omega)
theorem LR_a {w wr w8 : World} {P g d g' d' a Q h f h' f' v r v' r' : Nat} {bs bs' bp : List BV} {ts ts' tp : List Int} {ms : List MV} (V : Vm w wr P g d g' d' bs ts a ms) (Y : LnAt wr Q h f h' f' bs' ts') (B : Below wr.heap.size wr w8) (K : Blk w8 wr.heap.size 32 #[.slice none 0 0, .slice none 0 0]) (O : LnO w8 wr.heap.size v r v' r' bp tp) (N : v ≠ wr.heap.size ∧ v' ≠ wr.heap.size) :
    Vm w ((w8.setCell ⟨wr.heap.size, 0, none⟩ (.slice (some ⟨v, 0, none⟩) bp.length r)).setCell ⟨wr.heap.size, 1, none⟩ (.slice (some ⟨v', 0, none⟩) tp.length r')) P g d g' d' bs ts a ms ∧ LnAt ((w8.setCell ⟨wr.heap.size, 0, none⟩ (.slice (some ⟨v, 0, none⟩) bp.length r)).setCell ⟨wr.heap.size, 1, none⟩ (.slice (some ⟨v', 0, none⟩) tp.length r')) Q h f h' f' bs' ts' ∧ LnAt ((w8.setCell ⟨wr.heap.size, 0, none⟩ (.slice (some ⟨v, 0, none⟩) bp.length r)).setCell ⟨wr.heap.size, 1, none⟩ (.slice (some ⟨v', 0, none⟩) tp.length r')) wr.heap.size v r v' r' bp tp := by
  have b := (B.setCell (Nat.le_refl _) (u := .slice (some ⟨v, 0, none⟩) bp.length r) (p := ⟨wr.heap.size, 0, none⟩)).setCell (Nat.le_refl _) (u := .slice (some ⟨v', 0, none⟩) tp.length r') (p := ⟨wr.heap.size, 1, none⟩)
  have o := (O.far (p := ⟨wr.heap.size, 0, none⟩) N.1 N.2 (.slice (some ⟨v, 0, none⟩) bp.length r)).far (p := ⟨wr.heap.size, 1, none⟩) N.1 N.2 (.slice (some ⟨v', 0, none⟩) tp.length r')
  exact ⟨V.step b, Y.below b, by simpa using (K.set_ 0 (.slice (some ⟨v, 0, none⟩) bp.length r)).set_ 1 (.slice (some ⟨v', 0, none⟩) tp.length r'), o.1.at, o.2.1.at, o.1.lt, o.2.1.lt⟩
theorem LR_b {w wr w8 : World} {P g d g' d' a Q h f h' f' v r v' r' : Nat} {bs bs' bp : List BV} {ts ts' tp : List Int} {ms : List MV} (V : Vm w wr P g d g' d' bs ts a ms) (Y : LnAt wr Q h f h' f' bs' ts') (B : Below wr.heap.size wr w8) (O : LnO w8 wr.heap.size v r v' r' bp tp) :
    Vm w (w8.alloc (.cells #[.slice (some ⟨v, 0, none⟩) bp.length r, .slice (some ⟨v', 0, none⟩) tp.length r'] 32)) P g d g' d' bs ts a ms ∧ LnAt (w8.alloc (.cells #[.slice (some ⟨v, 0, none⟩) bp.length r, .slice (some ⟨v', 0, none⟩) tp.length r'] 32)) Q h f h' f' bs' ts' ∧ LnAt (w8.alloc (.cells #[.slice (some ⟨v, 0, none⟩) bp.length r, .slice (some ⟨v', 0, none⟩) tp.length r'] 32)) w8.heap.size v r v' r' bp tp :=
  ⟨V.step (below_new' B _), Y.below (below_new' B _), LnAt.of (LnB.own O.1 O.2.1)⟩
set_option maxRecDepth 100000 in
set_option maxHeartbeats 3200000 in
theorem law_LineRun (A : Option Addr) (c : Nat) (ys : List Int) (w : World) (hq : ArgBytes w A c ys) :
    Calls Try.prog 4 #[.slice A ys.length c] w fun e w' => e = .returned (.bool true) ∧ Below w.heap.size w w' := by
  obtain ⟨hr, hlc, hc⟩ := hq
  by_cases hbig : 1048576 < ys.length
  · have t0 := dec_t (show (1048576 : Int) < (ys.length : Int) by omega)
    go_enter Try.func4, Try.ntmps4
    go_wp2_with fail
    go_ret
    exact ⟨rfl, Below.refl _ _⟩
  have t0 := dec_f (show ¬ (1048576 : Int) < (ys.length : Int) by omega)
  have HD := Lib.hid (draw_lrun A c ys.length w hlc hc hr)
  clear hr
  go_enter Try.func4, Try.ntmps4
  go_wp2_with fail
  refine HD.out.mono ?_
  rintro e w1 ⟨bs, ts, g, d, g', d', ms, a, cm, rfl, hl, hn, hm, hsh, hml, hom, hb1⟩
  have hcm : ms.length ≤ cm := OwnV.cap hom
  have hcm2 : cm ≤ 9223372036854775807 := by obtain ⟨_, cur, _, _, _, h, _⟩ := OwnV.parts hom; exact h
  have V1 : Hid (Vm w (w1.alloc (.cells #[.slice (some ⟨g, 0, none⟩) bs.length d, .slice (some ⟨g', 0, none⟩) ts.length d'] 32)) w1.heap.size g d g' d' bs ts a ms) := Lib.hid ⟨below_new' hb1 _, LnAt.of hl, (OwnMv.at hom).below (below_new _ _) (OwnV.lt hom), by have := OwnV.lt hom; simp; omega⟩
  have HSH := Lib.hid hsh
  clear hb1 hl HD hsh hom
  go_upto_region 4 with fail
  generalize w1.alloc (.cells #[.slice (some ⟨g, 0, none⟩) bs.length d, .slice (some ⟨g', 0, none⟩) ts.length d'] 32) = X1 at *
  generalize w1.heap.size = P at *
  have hst := fun (W : World) (h : Vm w W P g d g' d' bs ts a ms) => implLRun_any g d g' d' bs ts a 0 cm ms W (by omega) (by omega) (by omega) HSH.out h.2.1.2.2.2.1 h.2.1.2.2.2.2 h.2.2.2 h.2.1.2.1 h.2.1.2.2.1 h.2.2.1
  have hsp := fun (W : World) (h : Vm w W P g d g' d' bs ts a ms) => specLRun_any g d g' d' bs ts a 0 cm ms W (by omega) (by omega) (by omega) HSH.out h.2.1.2.2.2.1 h.2.1.2.2.2.2 h.2.2.2 h.2.1.2.1 h.2.1.2.2.1 h.2.2.1
  obtain ⟨o, ho⟩ : ∃ o, runL bs ts ms = o := ⟨_, rfl⟩
  rw [ho] at hst hsp
  have c0 := V1.out.2.1.cell0
  have c1 := V1.out.2.1.cell1
  cases o with
  | none =>
    unfold StepO at hst hsp
    simp only at hst hsp
    have HST := Lib.hid hst
    have HSP := Lib.hid hsp
    clear hst hsp ho
    go_wp2_with fail
    refine (HST.out _ V1.out).mono ?_
    rintro e w2 ⟨rfl, hb2⟩
    have V2 := Lib.hid (V1.out.step hb2)
    have Y2 : Hid (Blk (w2.alloc (.cells #[.slice none 0 0, .slice none 0 0] 32)) w2.heap.size 32 #[.slice none 0 0, .slice none 0 0]) := Lib.hid (Blk.new _ _ _)
    have V3 := Lib.hid (V2.out.step (below_new w2 (.cells #[.slice none 0 0, .slice none 0 0] 32)))
    clear hb2 V1 V2 c0 c1
    go_upto_region 5 with fail
    generalize w2.alloc (.cells #[.slice none 0 0, .slice none 0 0] 32) = X3 at *
    generalize w2.heap.size = Q at *
    have c0 := V3.out.2.1.cell0
    have c1 := V3.out.2.1.cell1
    go_wp2_with fail
    refine (HSP.out _ V3.out).mono ?_
    rintro e w4 ⟨rfl, hb4⟩
    have V4 := Lib.hid (V3.out.step hb4)
    have Y4 := Lib.hid (Y2.out.below hb4 Y2.out.lt)
    have Z5 : Hid (Blk (w4.alloc (.cells #[.slice none 0 0, .slice none 0 0] 32)) w4.heap.size 32 #[.slice none 0 0, .slice none 0 0]) := Lib.hid (Blk.new _ _ _)
    have V5 := Lib.hid (V4.out.step (below_new w4 (.cells #[.slice none 0 0, .slice none 0 0] 32)))
    have Y5 : Hid (Blk (w4.alloc (.cells #[.slice none 0 0, .slice none 0 0] 32)) Q 32 #[.slice none 0 0, .slice none 0 0]) := Lib.hid (Y4.out.alloc _)
    clear hb4 V3 V4 Y2 Y4 c0 c1
    go_upto_region 6 with fail
    generalize w4.alloc (.cells #[.slice none 0 0, .slice none 0 0] 32) = X5 at *
    generalize w4.heap.size = Z at *
    obtain ⟨y0, y1, _, _⟩ := blkCells2 Y5.out
    obtain ⟨z0, z1, _, _⟩ := blkCells2 Z5.out
    go_wp2_with fail
    refine (sameLine_nil _).mono ?_
    rintro e w6 ⟨rfl, hb6⟩
    have V6 := Lib.hid (V5.out.step hb6)
    have Y6 := Lib.hid (Y5.out.below hb6 Y5.out.lt)
    have Z6 := Lib.hid (Z5.out.below hb6 Z5.out.lt)
    clear hb6 V5 Y5 Z5 y0 y1 z0 z1
    obtain ⟨y0, y1, _, _⟩ := blkCells2 Y6.out
    obtain ⟨z0, z1, _, _⟩ := blkCells2 Z6.out
    go_wp2_with fail
    refine (sameLine_nil _).mono ?_
    rintro e w7 ⟨rfl, hb7⟩
    have V7 := Lib.hid (V6.out.step hb7)
    clear hb7 V6 y0 y1 z0 z1
    go_wp2_with fail
    go_ret
    exact ⟨rfl, V7.out.1⟩
  | some p =>
    obtain ⟨bs', ts'⟩ := p
    have hlen := foldI_len (runL_parts ho).2
    have hsec := fun k hk => run_section ho k hk
    obtain ⟨H, hH, hH2⟩ : ∃ H : Nat, Int.tdiv (ms.length : Int) 2 = (H : Int) ∧ H = ms.length / 2 := ⟨ms.length / 2, by rw [Int.tdiv_eq_ediv_of_nonneg (by omega)]; rfl, rfl⟩
    have hH3 : H ≤ ms.length := by omega
    obtain ⟨⟨bp, tp⟩, hr1, hr2, hp1, hp2⟩ := runL_two ho H
    simp only at hr1 hr2 hp1 hp2
    have hL1 := fun (W : World) (h : Vm w W P g d g' d' bs ts a ms) => implLRun_any g d g' d' bs ts a 0 cm (ms.take H) W (by omega) (by omega) (by rw [List.length_take]; omega) (HSH.out.takeN H) h.2.1.2.2.2.1 h.2.1.2.2.2.2 h.2.2.2 h.2.1.2.1 h.2.1.2.2.1 (h.2.2.1.takeN H)
    rw [hr1, List.length_take, show min H ms.length = H by omega] at hL1
    have hL2 := fun (W : World) (Q h e h' e' : Nat) (hv : Vm w W P g d g' d' bs ts a ms) (l : LnAt W Q h e h' e' bp tp) => implLRun_any h e h' e' bp tp a (H * 2) (cm - H) (ms.drop H) W (by omega) (by omega) (by rw [List.length_drop]; omega) (HSH.out.dropN H) l.2.2.2.1 l.2.2.2.2 hv.2.2.2 l.2.1 l.2.2.1 (hv.2.2.1.dropN H)
    rw [hr2, List.length_drop] at hL2
    unfold StepO at hst hsp hL1 hL2
    simp only at hst hsp hL1 hL2
    have HST := Lib.hid hst
    have HSP := Lib.hid hsp
    have HL1 := Lib.hid hL1
    have HL2 := Lib.hid hL2
    have HLEN := Lib.hid hlen
    have HSEC := Lib.hid hsec
    have HLP := Lib.hid (And.intro hp1 hp2)
    have HHH := Lib.hid hH2
    have hts5 : bs'.length ≤ 4 ∧ ts'.length ≤ 5 := by omega
    have htp5 : bp.length ≤ 4 ∧ tp.length ≤ 5 := by omega
    clear hst hsp hL1 hL2 hlen hsec ho hr1 hr2 hp1 hp2 hH2
    go_wp2_with fail
    refine (HST.out _ V1.out).mono ?_
    rintro e w2 ⟨h, f, h', f', rfl, ho, ho', hne, hb2⟩
    have V2 : Hid (Vm w (w2.alloc (.cells #[.slice (some ⟨h, 0, none⟩) bs'.length f, .slice (some ⟨h', 0, none⟩) ts'.length f'] 32)) P g d g' d' bs ts a ms) := Lib.hid ((V1.out.step hb2).step (below_new _ _))
    have Y2 : Hid (LnAt (w2.alloc (.cells #[.slice (some ⟨h, 0, none⟩) bs'.length f, .slice (some ⟨h', 0, none⟩) ts'.length f'] 32)) w2.heap.size h f h' f' bs' ts') := Lib.hid (LnAt.of (LnB.own ho ho'))
    clear hb2 V1 c0 c1 ho ho' hne
    go_upto_region 5 with fail
    generalize w2.alloc (.cells #[.slice (some ⟨h, 0, none⟩) bs'.length f, .slice (some ⟨h', 0, none⟩) ts'.length f'] 32) = X3 at *
    generalize w2.heap.size = Q at *
    have c0 := V2.out.2.1.cell0
    have c1 := V2.out.2.1.cell1
    go_wp2_with fail
    refine (HSP.out _ V2.out).mono ?_
    rintro e w4 ⟨u, r, u', r', rfl, ho, ho', hne, hb4⟩
    have V4 : Hid (Vm w (w4.alloc (.cells #[.slice (some ⟨u, 0, none⟩) bs'.length r, .slice (some ⟨u', 0, none⟩) ts'.length r'] 32)) P g d g' d' bs ts a ms) := Lib.hid ((V2.out.step hb4).step (below_new _ _))
    have Y4 : Hid (LnAt (w4.alloc (.cells #[.slice (some ⟨u, 0, none⟩) bs'.length r, .slice (some ⟨u', 0, none⟩) ts'.length r'] 32)) Q h f h' f' bs' ts') := Lib.hid ((Y2.out.below hb4).below (below_new _ _))
    have Z4 : Hid (LnAt (w4.alloc (.cells #[.slice (some ⟨u, 0, none⟩) bs'.length r, .slice (some ⟨u', 0, none⟩) ts'.length r'] 32)) w4.heap.size u r u' r' bs' ts') := Lib.hid (LnAt.of (LnB.own ho ho'))
    clear hb4 V2 Y2 c0 c1 ho ho' hne
    go_upto_region 6 with fail
    generalize w4.alloc (.cells #[.slice (some ⟨u, 0, none⟩) bs'.length r, .slice (some ⟨u', 0, none⟩) ts'.length r'] 32) = X5 at *
    generalize w4.heap.size = Z at *
    have y0 := Y4.out.cell0
    have y1 := Y4.out.cell1
    have z0 := Z4.out.cell0
    have z1 := Z4.out.cell1
    go_wp2_with fail
    refine (sameLine_same h f h' f' u r u' r' bs' ts' _ (by omega) (by omega) Y4.out.2.2.2.1 Y4.out.2.2.2.2 Z4.out.2.2.2.1 Z4.out.2.2.2.2 Y4.out.2.1 Y4.out.2.2.1 Z4.out.2.1 Z4.out.2.2.1).mono ?_
    rintro e w6 ⟨rfl, hb6⟩
    have V6 := Lib.hid (V4.out.step hb6)
    have Y6 := Lib.hid (Y4.out.below hb6)
    clear hb6 V4 Y4 Z4 y0 y1 z0 z1
    go_wp2_with fail
    go_loopw [9] (fun i wr => ∃ k : Nat, k ≤ bs.length ∧ i = .int .i64 k ∧ Vm w wr P g d g' d' bs ts a ms ∧ LnAt wr Q h f h' f' bs' ts') (fun i _ => bs.length - (intOf i).toNat)
    case atStart => exact ⟨0, by omega, rfl, V6.out, Y6.out⟩
    case round =>
      clear V6 Y6
      obtain ⟨k, hk, rfl, hv7, hy7⟩ := hrel
      have V7 := Lib.hid hv7
      have Y7 := Lib.hid hy7
      clear hv7 hy7
      have c0 := V7.out.2.1.cell0
      have i0 : (k : Int) < (bs.length : Int) ↔ k < bs.length := by omega
      clear i0
      by_cases hlt : k < bs.length
      · have hllen := HLEN.out.1
        obtain ⟨hs1, hs2, hs3⟩ := HSEC.out k hlt
        have htl := lineText_any a 0 cm ms (k : Int) wr (by omega) HSH.out V7.out.2.2.2 V7.out.2.2.1
        have hbx := stN_hit hs1 rfl
        have hbx' := stN_hit hs2 rfl
        have hXs : (⟨(txM ms (k : Int) ms.length).toArray⟩ : ByteArray).size ≤ 8 * ms.length := by
          have := txM_len (k := (k : Int)) HSH.out ms.length (Nat.le_refl _)
          show (txM ms (k : Int) ms.length).toArray.size ≤ _
          simpa using this
        generalize (⟨(txM ms (k : Int) ms.length).toArray⟩ : ByteArray) = X at *
        obtain ⟨q, hqq⟩ : ∃ q, stN (bs.getD k Z3) = q := ⟨_, rfl⟩
        obtain ⟨q', hqq'⟩ : ∃ q', stN (bs'.getD k Z3) = q' := ⟨_, rfl⟩
        rw [hqq] at hs1 hs3 hbx
        rw [hqq'] at hs2 hs3 hbx'
        have hrun := fun W => implRun_any q X W hs1 (by have := hXs; omega)
        unfold RunE runE at hrun
        obtain ⟨⟨n, i, o⟩, hst⟩ : ∃ x, st q = x := ⟨_, rfl⟩
        rw [hst] at hrun hbx
        have hgx := hbx
        have hkb : k < bs'.length := by omega
        have i1 : (k : Int) < (bs.length : Int) := by omega
        have i2 : (k : Int) < (bs'.length : Int) := by omega
        by_cases h30 : X.size ≤ 30
        · have t1 := dec_t (show (X.size : Int) ≤ 30 by omega)
          rw [hs3 h30, rst_t hs2, dec_t hs2] at hrun
          obtain ⟨⟨Xn, Xi, Xo⟩, hst'⟩ : ∃ x, st q' = x := ⟨_, rfl⟩
          rw [hst'] at hrun hbx'
          have hgx' := hbx'
          simp only at hrun
          have HRUN := Lib.hid hrun
          clear hrun hst hst' hbx hbx' hs1 hs2 hs3 hqq hqq' h30 hXs
          go_wp2_with fail
          refine htl.mono ?_
          rintro e w8 ⟨rfl, hb8⟩
          have V8 := Lib.hid (V7.out.step hb8)
          have Y8 := Lib.hid (Y7.out.below hb8)
          clear hb8 htl V7 Y7 c0
          have c0 := V8.out.2.1.cell0
          obtain ⟨g0, g1, g2⟩ := V8.out.2.1.2.1.at0 hlt
          rw [hgx] at g0 g1 g2
          simp only at g0 g1 g2
          have hklt : k + 1 ≤ bs.length := hlt
          clear hlt hllen
          go_wp2_with fail
          refine (HRUN.out _).mono ?_
          rintro e w9 ⟨rfl, hb9⟩
          have V9 := Lib.hid ((V8.out.step hb9).step (below_new w9 (.cells #[.int .i64 Xn, .bool Xi, .bool Xo] 48)))
          have Y9 := Lib.hid ((Y8.out.below hb9).below (below_new w9 (.cells #[.int .i64 Xn, .bool Xi, .bool Xo] 48)))
          have K9 := Lib.hid (Blk.new w9 48 #[.int .i64 Xn, .bool Xi, .bool Xo])
          clear hb9 V8 Y8 c0 g0 g1 g2 HRUN
          go_upto_region 13 with fail
          generalize w9.alloc (.cells #[.int .i64 Xn, .bool Xi, .bool Xo] 48) = W9 at *
          generalize w9.heap.size = B9 at *
          obtain ⟨b0, b1, b2, _, _, _⟩ := blkCells K9.out
          have y0 := Y9.out.cell0
          obtain ⟨q0, q1, q2⟩ := Y9.out.2.1.at0 hkb
          rw [hgx'] at q0 q1 q2
          simp only at q0 q1 q2
          clear hgx hgx' hkb
          go_quiet (fail)
          go_wp2_with fail
          go_roundw
          case rel =>
            have hq := fun B => Qt.below ⟨nq, rfl⟩ B (w := W9) (w' := W9.drewN nq)
            exact ⟨k + 1, hklt, by go_num, V9.out.step (hq _), Y9.out.below (hq _)⟩
          case measure => simp [intOf]; omega
        · have t1 := dec_f (show ¬ (X.size : Int) ≤ 30 by omega)
          rw [runV_f h30, rst_5, dec_f (show ¬ (5 : Nat) < 5 by omega)] at hrun
          obtain ⟨⟨Xn, Xi, Xo⟩, hst'⟩ : ∃ x, Z3 = x := ⟨_, rfl⟩
          rw [hst'] at hrun
          obtain ⟨x', hst2⟩ : ∃ x, st q' = x := ⟨_, rfl⟩
          obtain ⟨Un, Ui, Uo⟩ := x'
          rw [hst2] at hbx'
          have hgx' := hbx'
          simp only at hrun
          have HRUN := Lib.hid hrun
          clear hrun hst hst' hst2 hbx hbx' hs1 hs2 hs3 hqq hqq' h30 hXs
          go_wp2_with fail
          refine htl.mono ?_
          rintro e w8 ⟨rfl, hb8⟩
          have V8 := Lib.hid (V7.out.step hb8)
          have Y8 := Lib.hid (Y7.out.below hb8)
          clear hb8 htl V7 Y7 c0
          have c0 := V8.out.2.1.cell0
          obtain ⟨g0, g1, g2⟩ := V8.out.2.1.2.1.at0 hlt
          rw [hgx] at g0 g1 g2
          simp only at g0 g1 g2
          have hklt : k + 1 ≤ bs.length := hlt
          clear hlt hllen
          go_wp2_with fail
          refine (HRUN.out _).mono ?_
          rintro e w9 ⟨rfl, hb9⟩
          have V9 := Lib.hid ((V8.out.step hb9).step (below_new w9 (.cells #[.int .i64 Xn, .bool Xi, .bool Xo] 48)))
          have Y9 := Lib.hid ((Y8.out.below hb9).below (below_new w9 (.cells #[.int .i64 Xn, .bool Xi, .bool Xo] 48)))
          have K9 := Lib.hid (Blk.new w9 48 #[.int .i64 Xn, .bool Xi, .bool Xo])
          clear hb9 V8 Y8 c0 g0 g1 g2 HRUN
          go_upto_region 13 with fail
          generalize w9.alloc (.cells #[.int .i64 Xn, .bool Xi, .bool Xo] 48) = W9 at *
          generalize w9.heap.size = B9 at *
          obtain ⟨b0, b1, b2, _, _, _⟩ := blkCells K9.out
          have y0 := Y9.out.cell0
          obtain ⟨q0, q1, q2⟩ := Y9.out.2.1.at0 hkb
          rw [hgx'] at q0 q1 q2
          simp only at q0 q1 q2
          clear hgx hgx' hkb
          go_quiet (fail)
          go_wp2_with fail
          go_roundw
          case rel =>
            have hq := fun B => Qt.below ⟨nq, rfl⟩ B (w := W9) (w' := W9.drewN nq)
            exact ⟨k + 1, hklt, by go_num, V9.out.step (hq _), Y9.out.below (hq _)⟩
          case measure => simp [intOf]; omega
      · obtain rfl : k = bs.length := by omega
        clear hlt hk
        have j0 : (H : Int) ≤ (cm : Int) := by omega
        have j1 : (H : Int) ≤ (ms.length : Int) := by omega
        have j2 : IntKind.i64.wrap (H : Int) = (H : Int) := IntWalk.i64_in _ (by omega)
        have hH2 : (ms.length : Int) / 2 = (H : Int) := by have := HHH.out; omega
        have c1 := V7.out.2.1.cell1
        have n0 := World.new_ne wr _ c0
        have n1 := World.new_ne wr _ c1
        go_upto_region 15 with fail
        go_cut [13, 14] (fun a13 a14 wx => ∃ L v r v' r' : Nat, a13 = .pointer (some ⟨L, 0, none⟩) ∧ a14 = .bool true ∧ Vm w wx P g d g' d' bs ts a ms ∧ LnAt wx Q h f h' f' bs' ts' ∧ LnAt wx L v r v' r' bp tp)
        case first =>
          go_region_held3 (fun w' => w'.cell? ⟨P, 0, none⟩ = some (.slice (some ⟨g, 0, none⟩) bs.length d) ∧ w'.cell? ⟨P, 1, none⟩ = some (.slice (some ⟨g', 0, none⟩) ts.length d')) (go_keep) ((go_at_call 24; go_must (go_fit (HL1.out _ (by first | exact V7.out.step (Below.refl _ _).drew | exact (V7.out.step (below_new _ _)).step (Below.refl _ _).drew)); rintro e w8 ⟨v, r, v', r', rfl, ho, ho', hne, hb8⟩; have O8 : Hid (LnO w8 wr.heap.size v r v' r' bp tp) := Lib.hid ⟨OwnV.mono ho (by have h1 := ho.le; simp -failIfUnchanged at h1; omega), OwnV.mono ho' (by have h1 := ho'.le; simp -failIfUnchanged at h1; omega), hne⟩; (first | (have B8 : Hid (Below wr.heap.size wr w8) := Lib.hid ((Below.refl _ _).drew.trans hb8); have V8 := Lib.hid (V7.out.step B8.out); have y0 := V8.out.2.1.cell0; have y1 := V8.out.2.1.cell1; clear hb8 ho ho' hne) | (have B8 : Hid (Below wr.heap.size wr w8) := Lib.hid (below_to (below_new wr _).drew hb8 (by simp)); have V8 := Lib.hid (V7.out.step B8.out); have y0 := V8.out.2.1.cell0; have y1 := V8.out.2.1.cell1; have KB := Lib.hid ((Blk.new wr _ _).drew.below hb8 (by simp)); obtain ⟨e0, e1, e2, e3⟩ := blkCells2 KB.out; have NU : Hid (v ≠ wr.heap.size ∧ v' ≠ wr.heap.size) := Lib.hid (by have h1 := ho.le; have h2 := ho'.le; simp -failIfUnchanged at h1 h2; omega); clear hb8 ho ho' hne)))))
          all_goals
            go_wp2_with fail
            go_meet
            first
              | exact ⟨_, _, _, _, _, rfl, rfl, LR_a V7.out Y7.out B8.out KB.out O8.out NU.out⟩
              | exact ⟨_, _, _, _, _, rfl, rfl, LR_b V7.out Y7.out B8.out O8.out⟩
        obtain ⟨L, v, r, v', r', rfl, rfl, hv8, hy8, hl8⟩ := hcut
        have V8 := Lib.hid hv8
        have Y8 := Lib.hid hy8
        have L8 := Lib.hid hl8
        clear hv8 hy8 hl8 V7 Y7 c0 c1 n0 n1
        have jif : (if cm = H then some (⟨a, 0, none⟩ : Addr) else some ⟨a, H * 2, none⟩) = some ⟨a, H * 2, none⟩ := by
          split
          · have := HHH.out
            rw [show H = 0 by omega]
          · rfl
        have c0 := L8.out.cell0
        have c1 := L8.out.cell1
        have n0 := World.new_ne wc _ c0
        have n1 := World.new_ne wc _ c1
        go_upto_region 16 with fail
        go_cut [15, 16] (fun a15 a16 wx => ∃ M x s x' s' : Nat, a15 = .pointer (some ⟨M, 0, none⟩) ∧ a16 = .bool true ∧ Vm w wx P g d g' d' bs ts a ms ∧ LnAt wx Q h f h' f' bs' ts' ∧ LnAt wx M x s x' s' bs' ts')
        case first =>
          go_region_held3 (fun w' => w'.cell? ⟨L, 0, none⟩ = some (.slice (some ⟨v, 0, none⟩) bp.length r) ∧ w'.cell? ⟨L, 1, none⟩ = some (.slice (some ⟨v', 0, none⟩) tp.length r')) (go_keep) ((go_at_call 24; go_must (go_fit (HL2.out _ L v r v' r' (by first | exact V8.out.step (Below.refl _ _).drew | exact (V8.out.step (below_new _ _)).step (Below.refl _ _).drew) (by first | exact L8.out.below (Below.refl _ _).drew | exact (L8.out.below (below_new _ _)).below (Below.refl _ _).drew)); rintro e w9 ⟨x, s, x', s', rfl, ho, ho', hne, hb9⟩; have O9 : Hid (LnO w9 wc.heap.size x s x' s' bs' ts') := Lib.hid ⟨OwnV.mono ho (by have h1 := ho.le; simp -failIfUnchanged at h1; omega), OwnV.mono ho' (by have h1 := ho'.le; simp -failIfUnchanged at h1; omega), hne⟩; (first | (have B9 : Hid (Below wc.heap.size wc w9) := Lib.hid ((Below.refl _ _).drew.trans hb9); have L9 := Lib.hid (L8.out.below B9.out); have y0 := L9.out.cell0; have y1 := L9.out.cell1; clear hb9 ho ho' hne) | (have B9 : Hid (Below wc.heap.size wc w9) := Lib.hid (below_to (below_new wc _).drew hb9 (by simp)); have L9 := Lib.hid (L8.out.below B9.out); have y0 := L9.out.cell0; have y1 := L9.out.cell1; have KB := Lib.hid ((Blk.new wc _ _).drew.below hb9 (by simp)); obtain ⟨e0, e1, e2, e3⟩ := blkCells2 KB.out; have NU : Hid (x ≠ wc.heap.size ∧ x' ≠ wc.heap.size) := Lib.hid (by have h1 := ho.le; have h2 := ho'.le; simp -failIfUnchanged at h1 h2; omega); clear hb9 ho ho' hne)))))
          all_goals
            go_wp2_with fail
            go_meet
            first
              | exact ⟨_, _, _, _, _, rfl, rfl, LR_a V8.out Y8.out B9.out KB.out O9.out NU.out⟩
              | exact ⟨_, _, _, _, _, rfl, rfl, LR_b V8.out Y8.out B9.out O9.out⟩
        obtain ⟨M, x, s, x', s', rfl, rfl, hv9, hy9, hl9⟩ := hcut
        have V9 := Lib.hid hv9
        have Y9 := Lib.hid hy9
        have L9 := Lib.hid hl9
        clear hv9 hy9 hl9 V8 Y8 L8 c0 c1 n0 n1
        have c0 := L9.out.cell0
        have c1 := L9.out.cell1
        have y0 := Y9.out.cell0
        have y1 := Y9.out.cell1
        go_wp2_with fail
        refine (sameLine_same x s x' s' h f h' f' bs' ts' _ (by omega) (by omega) L9.out.2.2.2.1 L9.out.2.2.2.2 Y9.out.2.2.2.1 Y9.out.2.2.2.2 L9.out.2.1 L9.out.2.2.1 Y9.out.2.1 Y9.out.2.2.1).mono ?_
        rintro e w10 ⟨rfl, hb10⟩
        have V10 := Lib.hid (V9.out.step hb10)
        clear hb10
        go_wp2_with fail
        go_ret
        exact ⟨rfl, V10.out.1⟩
end Go.Proofs.Ytmgakfbchhefcaa
