/-
  Lines: the law FnLineStep. No condition.
-/
import Derived.Test.YtmgakfbchhefcaaLn23
import Derived.Deep.DeepCutAuto
namespace Go.Proofs.Ytmgakfbchhefcaa
open Go.RowKit
set_option linter.unusedVariables false
set_option linter.unusedSimpArgs false

theorem drl {W : World} {P g d g' d' : Nat} {bs : List BV} {ts : List Int} (h : LnAt W P g d g' d' bs ts) : LnAt W.drew P g d g' d' bs ts := h
theorem sumD_bd {ts ts' : List Int} {n : Nat} (hn : n ≤ 5) (h : ∀ k, k < ts.length → 0 ≤ ts.getD k 0 ∧ ts.getD k 0 ≤ 2 * (n : Int)) (h' : ∀ k, k < ts.length → 0 ≤ ts'.getD k 0 ∧ ts'.getD k 0 ≤ 2 * (n : Int)) : ∀ k, k ≤ ts.length → -(10 * (k : Int)) ≤ sumD ts ts' k ∧ sumD ts ts' k ≤ 10 * (k : Int) := by
  intro k
  induction k with
  | zero => intro _; simp [sumD]
  | succ k ih =>
    intro hk
    have := ih (by omega)
    have := h k (by omega)
    have := h' k (by omega)
    simp only [sumD]
    omega
/-- The line, the move, the new line. -/
def Vt (w W : World) (P g d g' d' : Nat) (bs : List BV) (ts : List Int) (k : Int) (s : ByteArray) : Prop := Below w.heap.size w W ∧ LnAt W P g d g' d' bs ts ∧ Blk W (P + 1) 36 #[.int .i64 k, .string s]
theorem Vt.step {w W W' : World} {P g d g' d' : Nat} {bs : List BV} {ts : List Int} {k : Int} {s : ByteArray} (h : Vt w W P g d g' d' bs ts k s) (b : Below W.heap.size W W') : Vt w W' P g d g' d' bs ts k s := ⟨below_to h.1 b h.1.size, h.2.1.below b, h.2.2.below b h.2.2.lt⟩
set_option maxRecDepth 100000 in
set_option maxHeartbeats 3200000 in
theorem law_LineStep (A : Option Addr) (c : Nat) (ys : List Int) (w : World) (hq : ArgBytes w A c ys) :
    Calls Try.prog 13 #[.slice A ys.length c] w fun e w' => e = .returned (.bool true) ∧ Below w.heap.size w w' := by
  obtain ⟨hr, hlc, hc⟩ := hq
  by_cases hbig : 1048576 < ys.length
  · have t0 := dec_t (show (1048576 : Int) < (ys.length : Int) by omega)
    go_enter Try.func13, Try.ntmps13
    go_wp2_with fail
    go_ret
    exact ⟨rfl, Below.refl _ _⟩
  have t0 := dec_f (show ¬ (1048576 : Int) < (ys.length : Int) by omega)
  have HD := Lib.hid (draw_lstep A c ys.length w hlc hc hr)
  clear hr
  go_enter Try.func13, Try.ntmps13
  go_wp2_with fail
  refine HD.out.mono ?_
  rintro e w1 ⟨bs, ts, g, d, g', d', k, s, rfl, hl, hn, hm, hk1, hk2, hs, hb1⟩
  have V1 : Hid (Vt w ((w1.alloc (.cells #[.slice (some ⟨g, 0, none⟩) bs.length d, .slice (some ⟨g', 0, none⟩) ts.length d'] 32)).alloc (.cells #[.int .i64 k, .string s] 36)) w1.heap.size g d g' d' bs ts k s) := Lib.hid ⟨below_new' (below_new' hb1 _) _, (LnAt.of hl).below (below_new _ _), by simpa using Blk.new (w1.alloc (.cells #[.slice (some ⟨g, 0, none⟩) bs.length d, .slice (some ⟨g', 0, none⟩) ts.length d'] 32)) 36 #[.int .i64 k, .string s]⟩
  clear hb1 hl HD
  go_upto_region 4 with fail
  generalize (w1.alloc (.cells #[.slice (some ⟨g, 0, none⟩) bs.length d, .slice (some ⟨g', 0, none⟩) ts.length d'] 32)).alloc (.cells #[.int .i64 k, .string s] 36) = X1 at *
  generalize w1.heap.size = P at *
  have hst := fun (W : World) (h : LnAt W P g d g' d' bs ts) => implStep_any g d g' d' bs ts k s W (by omega) (by omega) (by omega) h.2.2.2.1 h.2.2.2.2 h.2.1 h.2.2.1
  have hsp := fun (W : World) (h : LnAt W P g d g' d' bs ts) => specStep_any g d g' d' bs ts k s W (by omega) (by omega) (by omega) h.2.2.2.1 h.2.2.2.2 h.2.1 h.2.2.1
  obtain ⟨o, ho⟩ : ∃ o, stepV bs ts k s = o := ⟨_, rfl⟩
  rw [ho] at hst hsp
  have c0 := V1.out.2.1.cell0
  have c1 := V1.out.2.1.cell1
  obtain ⟨m0, m1, _, _⟩ := blkCells2 V1.out.2.2
  cases o with
  | none =>
    unfold StepO at hst hsp
    simp only at hst hsp
    have HST := Lib.hid hst
    have HSP := Lib.hid hsp
    clear hst hsp ho
    go_wp2_with fail
    refine (HST.out _ V1.out.2.1).mono ?_
    rintro e w2 ⟨rfl, hb2⟩
    have V2 := Lib.hid (V1.out.step hb2)
    have Y2 : Hid (Blk (w2.alloc (.cells #[.slice none 0 0, .slice none 0 0] 32)) w2.heap.size 32 #[.slice none 0 0, .slice none 0 0]) := Lib.hid (Blk.new _ _ _)
    have V3 : Hid (Vt w (w2.alloc (.cells #[.slice none 0 0, .slice none 0 0] 32)) P g d g' d' bs ts k s) := Lib.hid (V2.out.step (below_new _ _))
    clear hb2 V1 V2 c0 c1 m0 m1
    go_upto_region 5 with fail
    generalize w2.alloc (.cells #[.slice none 0 0, .slice none 0 0] 32) = X3 at *
    generalize w2.heap.size = Q at *
    have c0 := V3.out.2.1.cell0
    have c1 := V3.out.2.1.cell1
    obtain ⟨m0, m1, _, _⟩ := blkCells2 V3.out.2.2
    go_wp2_with fail
    refine (HSP.out _ V3.out.2.1).mono ?_
    rintro e w4 ⟨rfl, hb4⟩
    have V4 := Lib.hid (V3.out.step hb4)
    have Y4 := Lib.hid (Y2.out.below hb4 Y2.out.lt)
    have Z5 : Hid (Blk (w4.alloc (.cells #[.slice none 0 0, .slice none 0 0] 32)) w4.heap.size 32 #[.slice none 0 0, .slice none 0 0]) := Lib.hid (Blk.new _ _ _)
    have V5 : Hid (Vt w (w4.alloc (.cells #[.slice none 0 0, .slice none 0 0] 32)) P g d g' d' bs ts k s) := Lib.hid (V4.out.step (below_new _ _))
    have Y5 : Hid (Blk (w4.alloc (.cells #[.slice none 0 0, .slice none 0 0] 32)) Q 32 #[.slice none 0 0, .slice none 0 0]) := Lib.hid (Y4.out.alloc _)
    clear hb4 V3 V4 Y2 Y4 c0 c1 m0 m1
    go_upto_region 6 with fail
    generalize w4.alloc (.cells #[.slice none 0 0, .slice none 0 0] 32) = X5 at *
    generalize w4.heap.size = Z at *
    obtain ⟨y0, y1, _, _⟩ := blkCells2 Y5.out
    obtain ⟨z0, z1, _, _⟩ := blkCells2 Z5.out
    go_wp2_with fail
    refine (sameLine_nil _).mono ?_
    rintro e w6 ⟨rfl, hb6⟩
    have V6 := Lib.hid (V5.out.step hb6)
    have Y6 := Lib.hid (Y5.out.below hb6 Y5.out.lt)
    have Z6 := Lib.hid (Z5.out.below hb6 Z5.out.lt)
    clear hb6 V5 Y5 Z5 y0 y1 z0 z1
    obtain ⟨y0, y1, _, _⟩ := blkCells2 Y6.out
    obtain ⟨z0, z1, _, _⟩ := blkCells2 Z6.out
    go_wp2_with fail
    refine (sameLine_nil _).mono ?_
    rintro e w7 ⟨rfl, hb7⟩
    have V7 := Lib.hid (V6.out.step hb7)
    clear hb7 V6 y0 y1 z0 z1
    go_wp2_with fail
    go_ret
    exact ⟨rfl, V7.out.1⟩
  | some p =>
    obtain ⟨bs', ts'⟩ := p
    obtain ⟨hv, m, rfl, hmb, hsu⟩ := stepV_parts ho
    have hv' := step_valid hv hmb hsu
    have hlen := stepU_len hsu
    have hleft := step_left hmb hsu
    have hmov := step_moved hsu
    obtain ⟨hb5, hbl⟩ := step_block hmb hsu
    obtain ⟨_, _, hm5, hp1, _⟩ := lineB_iff.1 hv
    have hp2 := (lineB_iff.1 hv').2.2.2.1
    have hbd := sumD_bd (n := bs.length) (by omega) (fun k hk => ⟨(hp1 k hk).1, (hp1 k hk).2.1⟩) (fun k hk => by have := hp2 k (by rw [hlen.2]; exact hk); rw [hlen.1] at this; exact ⟨this.1, this.2.1⟩)
    have hval := fun (W : World) (Q h e h' e' : Nat) (a : LnAt W Q h e h' e' bs' ts') => implValid_any h e h' e' bs' ts' W (by omega) (by omega) a.2.2.2.1 a.2.2.2.2 a.2.1 a.2.2.1
    rw [hv'] at hval
    have hlf := fun (W : World) (Q h e h' e' : Nat) (a : LnAt W Q h e h' e' bs ts) => implLeft_any h e h' e' bs ts W (by omega) (by omega) a.2.2.2.1 a.2.2.2.2 a.2.1 a.2.2.1
    rw [leftV_t hv] at hlf
    have hlf' := fun (W : World) (Q h e h' e' : Nat) (a : LnAt W Q h e h' e' bs' ts') => implLeft_any h e h' e' bs' ts' W (by omega) (by omega) a.2.2.2.1 a.2.2.2.2 a.2.1 a.2.2.1
    rw [leftV_t hv'] at hlf'
    have hl1 := sumL_bd bs ts hm5 bs.length
    have hl2 := sumL_bd bs' ts' (by omega) bs'.length
    obtain ⟨L1, hL1⟩ : ∃ L1, sumL bs ts bs.length = L1 := ⟨_, rfl⟩
    obtain ⟨L2, hL2⟩ : ∃ L2, sumL bs' ts' bs'.length = L2 := ⟨_, rfl⟩
    rw [hL1] at hleft hlf hl1
    rw [hL2] at hleft hlf' hl2
    obtain ⟨⟨n, i, o⟩, hx⟩ : ∃ x, bs.getD m Z3 = x := ⟨_, rfl⟩
    rw [hx] at hb5 hbl
    obtain ⟨j, hj⟩ : ∃ j, bstep (n, i, o) s = j := ⟨_, rfl⟩
    rw [hj] at hb5 hbl
    have hbs := fun w => implBstep_any n i o s w (by omega)
    unfold BstV at hbs
    rw [bst_t hj hb5, hj, dec_t hb5] at hbs
    obtain ⟨X, hX⟩ : ∃ X, st j = X := ⟨_, rfl⟩
    rw [hX] at hbs hbl
    obtain ⟨Xn, Xi, Xo⟩ := X
    simp only [bv] at hbs
    have hgx : bs'.getD m Z3 = (Xn, Xi, Xo) := by rw [hbl]; simp [List.getD, hmb]
    have i1 : (m : Int) < (bs.length : Int) := by omega
    have i2 : (m : Int) < (bs'.length : Int) := by omega
    have hmb' : m < bs'.length := by omega
    have HCL : Hid (∀ W, LnAt W P g d g' d' bs ts → W.cell? ⟨g, m * 3, none⟩ = some (.int .i64 n) ∧ W.cell? ⟨g, m * 3 + 1, none⟩ = some (.bool i) ∧ W.cell? ⟨g, m * 3 + 2, none⟩ = some (.bool o)) := Lib.hid fun W a => by
      have := a.2.1.at0 hmb
      rw [hx] at this
      exact this
    have HCL' : Hid (∀ W Q h e h' e', LnAt W Q h e h' e' bs' ts' → W.cell? ⟨h, m * 3, none⟩ = some (.int .i64 Xn) ∧ W.cell? ⟨h, m * 3 + 1, none⟩ = some (.bool Xi) ∧ W.cell? ⟨h, m * 3 + 2, none⟩ = some (.bool Xo)) := Lib.hid fun W Q h e h' e' a => by
      have := a.2.1.at0 hmb'
      rw [hgx] at this
      exact this
    unfold StepO at hst hsp
    simp only at hst hsp
    have HST := Lib.hid hst
    have HSP := Lib.hid hsp
    have HVAL := Lib.hid hval
    have HLF := Lib.hid hlf
    have HLF' := Lib.hid hlf'
    have HBD := Lib.hid hbd
    have HXB : Hid (∀ k, k < ts.length → 0 ≤ ts.getD k 0 ∧ ts.getD k 0 ≤ 10) := Lib.hid fun k hk => by have := hp1 k hk; omega
    have HYB : Hid (∀ k, k < ts.length → 0 ≤ ts'.getD k 0 ∧ ts'.getD k 0 ≤ 10) := Lib.hid fun k hk => by have := hp2 k (by omega); omega
    have HMOV := Lib.hid hmov
    have HLEN := Lib.hid hlen
    have HBS := Lib.hid hbs
    have HLE := Lib.hid hleft
    have hts5 : bs'.length ≤ 5 ∧ ts'.length ≤ 5 := by omega
    clear hst hsp hval hlf hlf' hbd hmov hlen hbs hleft ho hv hv' hsu hb5 hbl hp1 hp2 hL1 hL2 hx hj hX hgx
    go_wp2_with fail
    refine (HST.out _ V1.out.2.1).mono ?_
    rintro e w2 ⟨h, f, h', f', rfl, ho, ho', hne, hb2⟩
    have V2 : Hid (Vt w (w2.alloc (.cells #[.slice (some ⟨h, 0, none⟩) bs'.length f, .slice (some ⟨h', 0, none⟩) ts'.length f'] 32)) P g d g' d' bs ts (m : Int) s) := Lib.hid ((V1.out.step hb2).step (below_new _ _))
    have Y2 : Hid (LnAt (w2.alloc (.cells #[.slice (some ⟨h, 0, none⟩) bs'.length f, .slice (some ⟨h', 0, none⟩) ts'.length f'] 32)) w2.heap.size h f h' f' bs' ts') := Lib.hid (LnAt.of (LnB.own ho ho'))
    clear hb2 V1 c0 c1 m0 m1 ho ho' hne
    go_upto_region 5 with fail
    generalize w2.alloc (.cells #[.slice (some ⟨h, 0, none⟩) bs'.length f, .slice (some ⟨h', 0, none⟩) ts'.length f'] 32) = X3 at *
    generalize w2.heap.size = Q at *
    have c0 := V2.out.2.1.cell0
    have c1 := V2.out.2.1.cell1
    obtain ⟨m0, m1, _, _⟩ := blkCells2 V2.out.2.2
    go_wp2_with fail
    refine (HSP.out _ V2.out.2.1).mono ?_
    rintro e w4 ⟨u, r, u', r', rfl, ho, ho', hne, hb4⟩
    have V4 : Hid (Vt w (w4.alloc (.cells #[.slice (some ⟨u, 0, none⟩) bs'.length r, .slice (some ⟨u', 0, none⟩) ts'.length r'] 32)) P g d g' d' bs ts (m : Int) s) := Lib.hid ((V2.out.step hb4).step (below_new _ _))
    have Y4 : Hid (LnAt (w4.alloc (.cells #[.slice (some ⟨u, 0, none⟩) bs'.length r, .slice (some ⟨u', 0, none⟩) ts'.length r'] 32)) Q h f h' f' bs' ts') := Lib.hid ((Y2.out.below hb4).below (below_new _ _))
    have Z4 : Hid (LnAt (w4.alloc (.cells #[.slice (some ⟨u, 0, none⟩) bs'.length r, .slice (some ⟨u', 0, none⟩) ts'.length r'] 32)) w4.heap.size u r u' r' bs' ts') := Lib.hid (LnAt.of (LnB.own ho ho'))
    clear hb4 V2 Y2 c0 c1 m0 m1 ho ho' hne
    go_upto_region 6 with fail
    generalize w4.alloc (.cells #[.slice (some ⟨u, 0, none⟩) bs'.length r, .slice (some ⟨u', 0, none⟩) ts'.length r'] 32) = X5 at *
    generalize w4.heap.size = Z at *
    have y0 := Y4.out.cell0
    have y1 := Y4.out.cell1
    have z0 := Z4.out.cell0
    have z1 := Z4.out.cell1
    go_wp2_with fail
    refine (sameLine_same h f h' f' u r u' r' bs' ts' _ (by omega) (by omega) Y4.out.2.2.2.1 Y4.out.2.2.2.2 Z4.out.2.2.2.1 Z4.out.2.2.2.2 Y4.out.2.1 Y4.out.2.2.1 Z4.out.2.1 Z4.out.2.2.1).mono ?_
    rintro e w6 ⟨rfl, hb6⟩
    have V6 := Lib.hid (V4.out.step hb6)
    have Y6 := Lib.hid (Y4.out.below hb6)
    clear hb6 V4 Y4 Z4 y0 y1 z0 z1
    go_upto_region 8 with fail
    go_cut [9, 10] (fun a9 a10 wx => ∃ R : Nat, a9 = .pointer (some ⟨R, 0, none⟩) ∧ a10 = .bool true ∧ Vt w wx P g d g' d' bs ts (m : Int) s ∧ LnAt wx Q h f h' f' bs' ts' ∧ Blk wx R 48 #[.int .i64 Xn, .bool Xi, .bool Xo])
    case first =>
      have c0 := V6.out.2.1.cell0
      obtain ⟨m0, m1, _, _⟩ := blkCells2 V6.out.2.2
      obtain ⟨p0, p1, p2⟩ := HCL.out _ V6.out.2.1
      have n0 := World.new_ne w6 _ c0
      have n1 := World.new_ne w6 _ m0
      have n2 := World.new_ne w6 _ m1
      have n3 := World.new_ne w6 _ p0
      have n4 := World.new_ne w6 _ p1
      have n5 := World.new_ne w6 _ p2
      go_region_held3 (fun w' => w'.cell? ⟨P, 0, none⟩ = some (.slice (some ⟨g, 0, none⟩) bs.length d) ∧ w'.cell? ⟨P + 1, 0, none⟩ = some (.int .i64 (m : Int)) ∧ w'.cell? ⟨P + 1, 1, none⟩ = some (.string s) ∧ w'.cell? ⟨g, m * 3, none⟩ = some (.int .i64 n) ∧ w'.cell? ⟨g, m * 3 + 1, none⟩ = some (.bool i) ∧ w'.cell? ⟨g, m * 3 + 2, none⟩ = some (.bool o)) (go_keep) (first | (go_at_call 45; go_must (go_fit (HBS.out _); rintro e w8 ⟨rfl, hb8⟩; (first | (have B8 : Hid (Below w6.heap.size w6 w8) := Lib.hid ((Below.refl _ _).drew.trans hb8); have V8 := Lib.hid (V6.out.step B8.out); have y0 := V8.out.2.1.cell0; obtain ⟨y1, y2, _, _⟩ := blkCells2 V8.out.2.2; obtain ⟨y3, y4, y5⟩ := HCL.out _ V8.out.2.1; clear hb8) | (have B8 : Hid (Below w6.heap.size w6 w8) := Lib.hid (below_to (below_new w6 _).drew hb8 (by simp)); have V8 := Lib.hid (V6.out.step B8.out); have KB := Lib.hid ((Blk.new w6 _ _).drew.below hb8 (by simp)); obtain ⟨e0, e1, e2, e3, e4, e5⟩ := blkCells KB.out; have y0 := V8.out.2.1.cell0; obtain ⟨y1, y2, _, _⟩ := blkCells2 V8.out.2.2; obtain ⟨y3, y4, y5⟩ := HCL.out _ V8.out.2.1; clear hb8)))))
      all_goals
        go_wp2_with fail
        go_meet
        first
          | exact ⟨w8.heap.size, rfl, rfl, V8.out.step (below_new w8 _), (Y6.out.below B8.out).below (below_new w8 _), Blk.new _ _ _⟩
          | exact ⟨w6.heap.size, rfl, rfl, V6.out.step (((B8.out.setCell (Nat.le_refl _) _).setCell (Nat.le_refl _) _).setCell (Nat.le_refl _) _), Y6.out.below (((B8.out.setCell (Nat.le_refl _) _).setCell (Nat.le_refl _) _).setCell (Nat.le_refl _) _), blk_set3 KB.out _ _ _⟩
    obtain ⟨R, rfl, rfl, hv8, hy8, hk8⟩ := hcut
    have V8 := Lib.hid hv8
    have Y8 := Lib.hid hy8
    have K8 := Lib.hid hk8
    clear hv8 hy8 hk8 V6 Y6
    go_wp2_with fail
    go_loopw [11, 12] (fun a i wr => ∃ k : Nat, k ≤ ts.length ∧ i = .int .i64 k ∧ a = .int .i64 (sumD ts ts' k) ∧ Vt w wr P g d g' d' bs ts (m : Int) s ∧ LnAt wr Q h f h' f' bs' ts' ∧ Blk wr R 48 #[.int .i64 Xn, .bool Xi, .bool Xo]) (fun _ i _ => ts.length - (intOf i).toNat)
    case atStart => exact ⟨0, by omega, rfl, rfl, V8.out, Y8.out, K8.out⟩
    case round =>
      clear V8 Y8 K8
      obtain ⟨k, hk, rfl, rfl, hv9, hy9, hk9⟩ := hrel
      have V9 := Lib.hid hv9
      have Y9 := Lib.hid hy9
      have K9 := Lib.hid hk9
      clear hv9 hy9 hk9
      have c1 := V9.out.2.1.cell1
      by_cases hlt : k < ts.length
      · have y1 := Y9.out.cell1
        have hl := HLEN.out.2
        have g1 := V9.out.2.1.2.2.1.at0 hlt
        have g2 := Y9.out.2.2.1.at0 (show k < ts'.length by omega)
        have hb1 := HBD.out k hk
        have hb2 := HBD.out (k + 1) (by omega)
        have hsucc : sumD ts ts' (k + 1) = sumD ts ts' k + ts'.getD k 0 - ts.getD k 0 := rfl
        have i3 : (k : Int) < (ts.length : Int) := by omega
        have i4 : (k : Int) < (ts'.length : Int) := by omega
        obtain ⟨x, hx⟩ : ∃ x, ts.getD k 0 = x := ⟨_, rfl⟩
        obtain ⟨y, hy⟩ : ∃ y, ts'.getD k 0 = y := ⟨_, rfl⟩
        have hxb := HXB.out k hlt
        have hyb := HYB.out k hlt
        rw [hx] at g1 hsucc hxb
        rw [hy] at g2 hsucc hyb
        obtain ⟨S0, hS0⟩ : ∃ S0, sumD ts ts' k = S0 := ⟨_, rfl⟩
        obtain ⟨S1, hS1⟩ : ∃ S1, sumD ts ts' (k + 1) = S1 := ⟨_, rfl⟩
        rw [hS0] at hsucc hb1
        rw [hS1] at hsucc hb2
        rw [hS0]
        have u1 : IntKind.i64.wrap (S0 + y) = S0 + y := IntWalk.i64_in _ (by omega)
        have u2 : IntKind.i64.wrap (S0 + y - x) = S1 := by rw [IntWalk.i64_in _ (by omega)]; exact hsucc.symm
        have HS1 := Lib.hid hS1
        clear hx hy hS0 hS1 hsucc hl hlt hxb hyb
        go_wp2_with fail
        go_quiet (fail)
        go_wp2_with fail
        go_roundw
        case rel =>
          have hq := fun B => Qt.below ⟨nq, rfl⟩ B (w := wr) (w' := wr.drewN nq)
          exact ⟨k + 1, by omega, by go_num, by rw [HS1.out], V9.out.step (hq _), Y9.out.below (hq _), K9.out.below (hq wr.heap.size) K9.out.lt⟩
        case measure => simp [intOf]; omega
      · obtain rfl : k = ts.length := by omega
        have hmv := HMOV.out
        rw [hmv]
        have hle := HLE.out
        have u3 : IntKind.i64.wrap (L1 - 1) = L1 - 1 := IntWalk.i64_in _ (by omega)
        have t3 := dec_t hle
        have y0 := Y9.out.cell0
        have y1 := Y9.out.cell1
        have c0 := V9.out.2.1.cell0
        obtain ⟨m0, m1, _, _⟩ := blkCells2 V9.out.2.2
        obtain ⟨q0, q1, q2⟩ := HCL'.out _ _ _ _ _ _ Y9.out
        obtain ⟨r0, r1, r2, _, _, _⟩ := blkCells K9.out
        have STP : Hid (∀ W W', (Vt w W P g d g' d' bs ts (m : Int) s ∧ LnAt W Q h f h' f' bs' ts' ∧ Blk W R 48 #[.int .i64 Xn, .bool Xi, .bool Xo]) → Below W.heap.size W W' → (Vt w W' P g d g' d' bs ts (m : Int) s ∧ LnAt W' Q h f h' f' bs' ts' ∧ Blk W' R 48 #[.int .i64 Xn, .bool Xi, .bool Xo])) := Lib.hid fun W W' a b => ⟨a.1.step b, a.2.1.below b, a.2.2.below b a.2.2.lt⟩
        by_cases he : s = ⟨#[101]⟩
        · have te := (str_e (s := s)).trans (dec_t he)
          have te' := te
          rw [lit_e] at te'
          have tl : True := trivial
          have hd : dueB s = 1 := by unfold dueB; rw [if_pos (.inl he)]
          rw [hd]
          clear he hd hmv
          clear tl
          go_upto_region 17 with fail
          have W9 : Hid (Vt w wr P g d g' d' bs ts (m : Int) s ∧ LnAt wr Q h f h' f' bs' ts' ∧ Blk wr R 48 #[.int .i64 Xn, .bool Xi, .bool Xo]) := Lib.hid ⟨V9.out, Y9.out, K9.out⟩
          go_region_held3 (fun w' => w'.cell? ⟨P, 0, none⟩ = some (.slice (some ⟨g, 0, none⟩) bs.length d) ∧ w'.cell? ⟨P, 1, none⟩ = some (.slice (some ⟨g', 0, none⟩) ts.length d') ∧ w'.cell? ⟨P + 1, 0, none⟩ = some (.int .i64 (m : Int)) ∧ w'.cell? ⟨Q, 0, none⟩ = some (.slice (some ⟨h, 0, none⟩) bs'.length f) ∧ w'.cell? ⟨Q, 1, none⟩ = some (.slice (some ⟨h', 0, none⟩) ts'.length f') ∧ w'.cell? ⟨h, m * 3, none⟩ = some (.int .i64 Xn) ∧ w'.cell? ⟨h, m * 3 + 1, none⟩ = some (.bool Xi) ∧ w'.cell? ⟨h, m * 3 + 2, none⟩ = some (.bool Xo) ∧ w'.cell? ⟨R, 0, none⟩ = some (.int .i64 Xn) ∧ w'.cell? ⟨R, 1, none⟩ = some (.bool Xi) ∧ w'.cell? ⟨R, 2, none⟩ = some (.bool Xo)) (go_keep) (first | (go_at_call 32; go_must (go_fit (HVAL.out _ Q h f h' f' (drl W9.out.2.1)); rintro e w10 ⟨rfl, hb10⟩; have W10 := Lib.hid (STP.out _ _ (STP.out _ _ W9.out (Below.refl _ _).drew) hb10); have y0 := W10.out.2.1.cell0; have y1 := W10.out.2.1.cell1; have c0 := W10.out.1.2.1.cell0; have c1 := W10.out.1.2.1.cell1; obtain ⟨m0, m1, _, _⟩ := blkCells2 W10.out.1.2.2; obtain ⟨q0, q1, q2⟩ := HCL'.out _ _ _ _ _ _ W10.out.2.1; obtain ⟨r0, r1, r2, _, _, _⟩ := blkCells W10.out.2.2; clear hb10)) | (go_at_call_of 34 (Value.agg #[.slice (some ⟨h, 0, none⟩) bs'.length f, .slice (some ⟨h', 0, none⟩) ts'.length f']); go_must (go_fit (HLF'.out _ Q h f h' f' W10.out.2.1); rintro e w11 ⟨rfl, hb11⟩; have W11 := Lib.hid (STP.out _ _ W10.out hb11); have y0 := W11.out.2.1.cell0; have y1 := W11.out.2.1.cell1; have c0 := W11.out.1.2.1.cell0; have c1 := W11.out.1.2.1.cell1; obtain ⟨m0, m1, _, _⟩ := blkCells2 W11.out.1.2.2; obtain ⟨q0, q1, q2⟩ := HCL'.out _ _ _ _ _ _ W11.out.2.1; obtain ⟨r0, r1, r2, _, _, _⟩ := blkCells W11.out.2.2; clear hb11)) | (go_at_call_of 34 (Value.agg #[.slice (some ⟨g, 0, none⟩) bs.length d, .slice (some ⟨g', 0, none⟩) ts.length d']); go_must (go_fit (HLF.out _ P g d g' d' W11.out.1.2.1); rintro e w12 ⟨rfl, hb12⟩; have W12 := Lib.hid (STP.out _ _ W11.out hb12); have y0 := W12.out.2.1.cell0; have y1 := W12.out.2.1.cell1; have c0 := W12.out.1.2.1.cell0; have c1 := W12.out.1.2.1.cell1; obtain ⟨m0, m1, _, _⟩ := blkCells2 W12.out.1.2.2; obtain ⟨q0, q1, q2⟩ := HCL'.out _ _ _ _ _ _ W12.out.2.1; obtain ⟨r0, r1, r2, _, _, _⟩ := blkCells W12.out.2.2; clear hb12)))
          all_goals
            go_wp2_with fail
            go_ret
            exact ⟨rfl, W12.out.1.1⟩
        · have te := (str_e (s := s)).trans (dec_f he)
          have te' := te
          rw [lit_e] at te'
          by_cases hl : s = ⟨#[108]⟩
          · have tl := (str_l (s := s)).trans (dec_t hl)
            have tl' := tl
            rw [lit_l] at tl'
            have hd : dueB s = 1 := by unfold dueB; rw [if_pos (.inr hl)]
            rw [hd]
            clear he hl hd hmv
            go_upto_region 17 with fail
            have W9 : Hid (Vt w wr P g d g' d' bs ts (m : Int) s ∧ LnAt wr Q h f h' f' bs' ts' ∧ Blk wr R 48 #[.int .i64 Xn, .bool Xi, .bool Xo]) := Lib.hid ⟨V9.out, Y9.out, K9.out⟩
            go_region_held3 (fun w' => w'.cell? ⟨P, 0, none⟩ = some (.slice (some ⟨g, 0, none⟩) bs.length d) ∧ w'.cell? ⟨P, 1, none⟩ = some (.slice (some ⟨g', 0, none⟩) ts.length d') ∧ w'.cell? ⟨P + 1, 0, none⟩ = some (.int .i64 (m : Int)) ∧ w'.cell? ⟨Q, 0, none⟩ = some (.slice (some ⟨h, 0, none⟩) bs'.length f) ∧ w'.cell? ⟨Q, 1, none⟩ = some (.slice (some ⟨h', 0, none⟩) ts'.length f') ∧ w'.cell? ⟨h, m * 3, none⟩ = some (.int .i64 Xn) ∧ w'.cell? ⟨h, m * 3 + 1, none⟩ = some (.bool Xi) ∧ w'.cell? ⟨h, m * 3 + 2, none⟩ = some (.bool Xo) ∧ w'.cell? ⟨R, 0, none⟩ = some (.int .i64 Xn) ∧ w'.cell? ⟨R, 1, none⟩ = some (.bool Xi) ∧ w'.cell? ⟨R, 2, none⟩ = some (.bool Xo)) (go_keep) (first | (go_at_call 32; go_must (go_fit (HVAL.out _ Q h f h' f' (drl W9.out.2.1)); rintro e w10 ⟨rfl, hb10⟩; have W10 := Lib.hid (STP.out _ _ (STP.out _ _ W9.out (Below.refl _ _).drew) hb10); have y0 := W10.out.2.1.cell0; have y1 := W10.out.2.1.cell1; have c0 := W10.out.1.2.1.cell0; have c1 := W10.out.1.2.1.cell1; obtain ⟨m0, m1, _, _⟩ := blkCells2 W10.out.1.2.2; obtain ⟨q0, q1, q2⟩ := HCL'.out _ _ _ _ _ _ W10.out.2.1; obtain ⟨r0, r1, r2, _, _, _⟩ := blkCells W10.out.2.2; clear hb10)) | (go_at_call_of 34 (Value.agg #[.slice (some ⟨h, 0, none⟩) bs'.length f, .slice (some ⟨h', 0, none⟩) ts'.length f']); go_must (go_fit (HLF'.out _ Q h f h' f' W10.out.2.1); rintro e w11 ⟨rfl, hb11⟩; have W11 := Lib.hid (STP.out _ _ W10.out hb11); have y0 := W11.out.2.1.cell0; have y1 := W11.out.2.1.cell1; have c0 := W11.out.1.2.1.cell0; have c1 := W11.out.1.2.1.cell1; obtain ⟨m0, m1, _, _⟩ := blkCells2 W11.out.1.2.2; obtain ⟨q0, q1, q2⟩ := HCL'.out _ _ _ _ _ _ W11.out.2.1; obtain ⟨r0, r1, r2, _, _, _⟩ := blkCells W11.out.2.2; clear hb11)) | (go_at_call_of 34 (Value.agg #[.slice (some ⟨g, 0, none⟩) bs.length d, .slice (some ⟨g', 0, none⟩) ts.length d']); go_must (go_fit (HLF.out _ P g d g' d' W11.out.1.2.1); rintro e w12 ⟨rfl, hb12⟩; have W12 := Lib.hid (STP.out _ _ W11.out hb12); have y0 := W12.out.2.1.cell0; have y1 := W12.out.2.1.cell1; have c0 := W12.out.1.2.1.cell0; have c1 := W12.out.1.2.1.cell1; obtain ⟨m0, m1, _, _⟩ := blkCells2 W12.out.1.2.2; obtain ⟨q0, q1, q2⟩ := HCL'.out _ _ _ _ _ _ W12.out.2.1; obtain ⟨r0, r1, r2, _, _, _⟩ := blkCells W12.out.2.2; clear hb12)))
            all_goals
              go_wp2_with fail
              go_ret
              exact ⟨rfl, W12.out.1.1⟩
          · have tl := (str_l (s := s)).trans (dec_f hl)
            have tl' := tl
            rw [lit_l] at tl'
            have hd : dueB s = 0 := by unfold dueB; rw [if_neg (by rintro (h | h); exact he h; exact hl h)]
            rw [hd]
            clear he hl hd hmv
            go_upto_region 17 with fail
            have W9 : Hid (Vt w wr P g d g' d' bs ts (m : Int) s ∧ LnAt wr Q h f h' f' bs' ts' ∧ Blk wr R 48 #[.int .i64 Xn, .bool Xi, .bool Xo]) := Lib.hid ⟨V9.out, Y9.out, K9.out⟩
            go_region_held3 (fun w' => w'.cell? ⟨P, 0, none⟩ = some (.slice (some ⟨g, 0, none⟩) bs.length d) ∧ w'.cell? ⟨P, 1, none⟩ = some (.slice (some ⟨g', 0, none⟩) ts.length d') ∧ w'.cell? ⟨P + 1, 0, none⟩ = some (.int .i64 (m : Int)) ∧ w'.cell? ⟨Q, 0, none⟩ = some (.slice (some ⟨h, 0, none⟩) bs'.length f) ∧ w'.cell? ⟨Q, 1, none⟩ = some (.slice (some ⟨h', 0, none⟩) ts'.length f') ∧ w'.cell? ⟨h, m * 3, none⟩ = some (.int .i64 Xn) ∧ w'.cell? ⟨h, m * 3 + 1, none⟩ = some (.bool Xi) ∧ w'.cell? ⟨h, m * 3 + 2, none⟩ = some (.bool Xo) ∧ w'.cell? ⟨R, 0, none⟩ = some (.int .i64 Xn) ∧ w'.cell? ⟨R, 1, none⟩ = some (.bool Xi) ∧ w'.cell? ⟨R, 2, none⟩ = some (.bool Xo)) (go_keep) (first | (go_at_call 32; go_must (go_fit (HVAL.out _ Q h f h' f' (drl W9.out.2.1)); rintro e w10 ⟨rfl, hb10⟩; have W10 := Lib.hid (STP.out _ _ (STP.out _ _ W9.out (Below.refl _ _).drew) hb10); have y0 := W10.out.2.1.cell0; have y1 := W10.out.2.1.cell1; have c0 := W10.out.1.2.1.cell0; have c1 := W10.out.1.2.1.cell1; obtain ⟨m0, m1, _, _⟩ := blkCells2 W10.out.1.2.2; obtain ⟨q0, q1, q2⟩ := HCL'.out _ _ _ _ _ _ W10.out.2.1; obtain ⟨r0, r1, r2, _, _, _⟩ := blkCells W10.out.2.2; clear hb10)) | (go_at_call_of 34 (Value.agg #[.slice (some ⟨h, 0, none⟩) bs'.length f, .slice (some ⟨h', 0, none⟩) ts'.length f']); go_must (go_fit (HLF'.out _ Q h f h' f' W10.out.2.1); rintro e w11 ⟨rfl, hb11⟩; have W11 := Lib.hid (STP.out _ _ W10.out hb11); have y0 := W11.out.2.1.cell0; have y1 := W11.out.2.1.cell1; have c0 := W11.out.1.2.1.cell0; have c1 := W11.out.1.2.1.cell1; obtain ⟨m0, m1, _, _⟩ := blkCells2 W11.out.1.2.2; obtain ⟨q0, q1, q2⟩ := HCL'.out _ _ _ _ _ _ W11.out.2.1; obtain ⟨r0, r1, r2, _, _, _⟩ := blkCells W11.out.2.2; clear hb11)) | (go_at_call_of 34 (Value.agg #[.slice (some ⟨g, 0, none⟩) bs.length d, .slice (some ⟨g', 0, none⟩) ts.length d']); go_must (go_fit (HLF.out _ P g d g' d' W11.out.1.2.1); rintro e w12 ⟨rfl, hb12⟩; have W12 := Lib.hid (STP.out _ _ W11.out hb12); have y0 := W12.out.2.1.cell0; have y1 := W12.out.2.1.cell1; have c0 := W12.out.1.2.1.cell0; have c1 := W12.out.1.2.1.cell1; obtain ⟨m0, m1, _, _⟩ := blkCells2 W12.out.1.2.2; obtain ⟨q0, q1, q2⟩ := HCL'.out _ _ _ _ _ _ W12.out.2.1; obtain ⟨r0, r1, r2, _, _, _⟩ := blkCells W12.out.2.2; clear hb12)))
            all_goals
              go_wp2_with fail
              go_ret
              exact ⟨rfl, W12.out.1.1⟩
end Go.Proofs.Ytmgakfbchhefcaa
