/-
  TrackWay of the program: the search over a map. No condition but strings that have a length.
-/
import Derived.Test.YtkfgimhihknpoaaWay2
import Derived.StillTailTactics
import Derived.Deep.RegionLaw
namespace Go.Proofs.Ytkfgimhihknpoaa
open Go.RowKit
open Go.Maps
set_option linter.unusedVariables false

/-- What the program's search has made: the row of tracks, the map, the last track. -/
def ISt (w wr : World) (n b B bl : Nat) (L : List (Nat × Nat)) (g d m : Nat) : Prop :=
  OwnV wr w.heap.size 54 2 g d m (tcs n L) ∧ MapIs wr B n m L ∧ Blk wr bl 54 #[.int .u16 (b : Int), .int .i64 (n : Int)] ∧ g ≠ B ∧ g ≠ bl ∧ B ≠ bl ∧ w.heap.size ≤ B ∧ Below w.heap.size w wr ∧ m = L.length
theorem ISt.below {w wr wr' : World} {n b B bl g d m : Nat} {L : List (Nat × Nat)} (h : ISt w wr n b B bl L g d m) (hb : Below wr.heap.size wr wr') : ISt w wr' n b B bl L g d m :=
  ⟨OwnV.below h.1 hb h.1.lt, h.2.1.below hb h.2.1.lt, h.2.2.1.below hb h.2.2.1.lt, h.2.2.2.1, h.2.2.2.2.1, h.2.2.2.2.2.1, h.2.2.2.2.2.2.1, below_to h.2.2.2.2.2.2.2.1 hb h.2.2.2.2.2.2.2.1.size, h.2.2.2.2.2.2.2.2⟩
theorem ISt.alloc {w wr : World} {n b B bl g d m : Nat} {L : List (Nat × Nat)} (h : ISt w wr n b B bl L g d m) (o : Obj) : ISt w (wr.alloc o) n b B bl L g d m := h.below (below_new wr o)
set_option maxRecDepth 100000 in
set_option maxHeartbeats 6400000 in
theorem impl_way_yes (a b n : Nat) (w : World) (h1 : 1 ≤ n) (h2 : n ≤ 8) (ha : a < 2 ^ n) (hb : b < 2 ^ n) :
    Calls Try.prog 12 #[.string (T a n), .string (T b n)] w fun e w' => ∃ v : Int, e = .returned (.int .i64 v) ∧ IsWay n a b v ∧ Below w.heap.size w w' := by
  have hp8 := pow8 h2
  have hta := fun w => trackOf_yes a n w h1 h2 ha
  have htb := fun w => trackOf_yes b n w h1 h2 hb
  have HTA := Lib.hid hta
  have HTB := Lib.hid htb
  have HS0 := Lib.hid (srch_start b ha)
  have a16 : a < 65536 := by omega
  have b16 : b < 65536 := by omega
  have HA := Lib.hid ha
  have HB := Lib.hid hb
  have HP8 := Lib.hid hp8
  have hmm := @run_makeMap Try.prog
  generalize T a n = Ta at *
  generalize T b n = Tb at *
  clear hta htb ha hb hp8
  go_enter Try.func12, Try.ntmps12
  go_wp2_with fail
  refine (HTA.out _).mono ?_
  rintro e w1 ⟨rfl, hb1⟩
  have K1 := Lib.hid (Blk.new w1 54 #[.int .u16 (a : Int), .int .i64 (n : Int)])
  have B1 := Lib.hid (below_new' hb1 (.cells #[.int .u16 (a : Int), .int .i64 (n : Int)] 54))
  clear hb1
  go_wp2_with fail
  refine (HTB.out _).mono ?_
  rintro e w2 ⟨rfl, hb2⟩
  have K2 := Lib.hid (K1.out.below hb2 K1.out.lt)
  have hl12 : w1.heap.size < w2.heap.size := by have := hb2.size; simp at this; omega
  have B2 := Lib.hid (below_to B1.out hb2 B1.out.size)
  have c0 := K2.out.cell 0
  have c1 := K2.out.cell 1
  clear hb2 K1 B1
  have K3 := Lib.hid (Blk.new w2 54 #[.int .u16 (b : Int), .int .i64 (n : Int)])
  have hown0 := World.ownsMap_made (w2.alloc (.cells #[.int .u16 (b : Int), .int .i64 (n : Int)] 54)) Try.prog 54 (plainElem (H := Unit) Try.prog 3)
  simp only [World.size_alloc] at hown0
  have OW0 := Lib.hid hown0
  clear hown0
  have fin : ∀ w3, w3.ownsMap Try.prog 54 (plainElem (H := Unit) Try.prog 3) (w2.heap.size + 1) (0 + 1) ((DataW.map []).put (kl a n) (.lit (.int .i64 0))) → ((w2.alloc (.cells #[.int .u16 (b : Int), .int .i64 (n : Int)] 54)).alloc (.map #[] 0)).grownBy w3 (some (w2.heap.size + 1)) →
      ISt w (w3.alloc (.cells #[.int .u16 (a : Int), .int .i64 (n : Int)] 54)) n b (w2.heap.size + 1) w2.heap.size [(a, 0)] w3.heap.size 1 1 ∧ Blk w3 w1.heap.size 54 #[.int .u16 (a : Int), .int .i64 (n : Int)] := by
    intro w3 ho hg
    have hs := hg.size
    simp only [World.size_alloc] at hs
    have hk1 : Blk w3 w1.heap.size 54 #[.int .u16 (a : Int), .int .i64 (n : Int)] := ((K2.out.alloc _).alloc _).grown hg (by intro h; injection h; omega)
    have hk2 : Blk w3 w2.heap.size 54 #[.int .u16 (b : Int), .int .i64 (n : Int)] := (K3.out.alloc _).grown hg (by intro h; injection h; omega)
    have hbw := B2.out.size
    have hb3 : Below w.heap.size w w3 := below_app (below_new' (below_new' B2.out _) _) hg (by omega)
    refine ⟨⟨?_, ?_, hk2.alloc _, by omega, by omega, by omega, by omega, below_new' hb3 _, rfl⟩, hk1⟩
    · exact OwnV.lit #[.int .u16 (a : Int), .int .i64 (n : Int)] (by omega) (by unfold maxLen; omega) rfl
    · exact (map_one h2 HA.out ho).kept (World.grownBy_alloc w3 _ none) (by simp)
  have FIN := Lib.hid fin
  have W64 : Hid ((Lit.int .i64 0).wf = true) := Lib.hid (wf64 (by omega) (by omega))
  clear fin
  go_wp2_with (first | (refine wpList_insert_own _ rfl (.tmp 40) (.tmp 41) (.const (.int .i64 0)) 57 rfl 54 3 lawTr Try.underlying57 _ (w2.heap.size + 1) 0 _ rfl OW0.out (by unfold maxLen; omega) _ _ (kl a n) rfl rfl (keyTr a n a16 h2) _ [] (plainElem_int Try.underlying3 W64.out) ?_; intro w3 hown3 hg3; have F3 := Lib.hid (FIN.out w3 hown3 hg3); have d0 := F3.out.2.cell 0; have d1 := F3.out.2.cell 1; clear hown3 hg3))
  clear FIN W64 OW0 K3 K2 B2 c0 c1 d0 d1 hmm HTA HTB
  have I0 := Lib.hid F3.out.1
  clear F3
  go_loopw [10, 11] (fun v q wr => ∃ (k g d m : Nat) (L : List (Nat × Nat)), k ≤ m ∧ q = .int .i64 k ∧ v = .slice (some ⟨g, 0, none⟩) m d ∧ ISt w wr n b (w2.heap.size + 1) w2.heap.size L g d m ∧ Srch n a b k L) (fun _ q _ => 256 - (intOf q).toNat)
  case atStart => exact ⟨0, _, _, _, [(a, 0)], by omega, rfl, rfl, I0.out, HS0.out⟩
  case round =>
    clear I0 HS0
    obtain ⟨k, g, d, m, L, hk, rfl, rfl, hi, hs⟩ := hrel
    have hle := srch_len hs h2
    have hmL := hi.2.2.2.2.2.2.2.2
    have hm256 : m ≤ 256 := by omega
    have I1 := Lib.hid hi
    have S1 := Lib.hid hs
    have HML := Lib.hid hmL
    clear hi hs hmL
    by_cases hlt : k < m
    · have hkL : k < L.length := by have := HML.out; omega
      obtain ⟨c, hc⟩ : ∃ c, L[k]? = some c := ⟨_, List.getElem?_eq_getElem hkL⟩
      have hcl := (S1.out.reach c (List.mem_of_getElem? hc)).2
      have hcd := S1.out.dle k c hc
      have c16 : c.1 < 65536 := by have := HP8.out; omega
      have e0 := I1.out.1.cell (k * 2) (by omega)
      have e1 := I1.out.1.cell (k * 2 + 1) (by omega)
      rw [(tcs_get hc).1] at e0
      rw [(tcs_get hc).2] at e1
      have l0 := I1.out.2.2.1.cell 0
      have l1 := I1.out.2.2.1.cell 1
      have i1 : (k : Int) < (m : Int) := by omega
      have hbl := I1.out.2.2.1.lt
      have J1 := Lib.hid (I1.out.alloc (.cells #[.int .u16 (c.1 : Int), .int .i64 (n : Int)] 54))
      have TB := Lib.hid (Blk.new wr 54 #[.int .u16 (c.1 : Int), .int .i64 (n : Int)])
      by_cases hcb : c.1 = b
      · have hway : IsWay n a b c.2 := srch_hit S1.out h2 (by rw [hc, ← hcb])
        obtain ⟨D, hD1, hD2, hD3⟩ := J1.out.2.1
        have hat := (hD3 c (List.mem_of_getElem? hc)).2
        have HAT := Lib.hid hat
        have HWAY := Lib.hid hway
        have B1 := Lib.hid J1.out.2.2.2.2.2.2.2.1
        rw [hcb] at e0 HAT
        have HD := Lib.hid hD1
        rw [hcb] at HD B1
        clear hway hD1 hD2 hD3 hat hcl c16 J1 TB hc hcb
        go_wp2_with (first | (at_lookup; refine wpList_lookup_own_int _ rfl (.tmp 58) (.tmp 59) 57 rfl 54 3 .i64 lawTr Try.underlying57 Try.underlying3 (zeroIn _) (w2.heap.size + 1) m D rfl HD.out _ (kl b n) rfl (keyTr b n b16 h2) ?_; intro c' hat hwc))
        go_ret
        have hcc : c' = (c.2 : Int) := by
          rw [HAT.out] at hat
          simp only [DataW.lit.injEq, Lit.int.injEq, true_and] at hat
          exact hat.symm
        rw [hcc]
        exact ⟨_, rfl, HWAY.out, B1.out⟩
      · have t1 := beq_f (show (c.1 : Int) ≠ (b : Int) by omega)
        have t1' : (c.1 == b) = false := by simpa using hcb
        have I0 := Lib.hid (srchI_start S1.out hc)
        have HCB := Lib.hid hcb
        have HCL := Lib.hid hcl
        have hne1 : wr.heap.size ≠ g := Nat.ne_of_gt I1.out.1.lt
        have hne2 : wr.heap.size ≠ w2.heap.size + 1 := Nat.ne_of_gt I1.out.2.1.lt
        clear hcb hc hcl
        go_wp2_with fail
        generalize hTBe : wr.heap.size = tb at *
        clear hTBe
        go_loopw [10, 63] (fun v q wr' => ∃ (i g d m : Nat) (L : List (Nat × Nat)), i ≤ n ∧ k < m ∧ q = .int .i64 i ∧ v = .slice (some ⟨g, 0, none⟩) m d ∧ ISt w wr' n b (w2.heap.size + 1) w2.heap.size L g d m ∧ Blk wr' tb 54 #[.int .u16 (c.1 : Int), .int .i64 (n : Int)] ∧ tb ≠ g ∧ SrchI n a b k i c L) (fun _ q _ => n - (intOf q).toNat)
        case atStart => exact ⟨0, _, _, _, L, by omega, hlt, rfl, rfl, J1.out, TB.out, hne1, I0.out⟩
        case round =>
          clear I0 S1 I1 HML J1 TB e0 e1 l0 l1
          obtain ⟨i, g2, d2, m2, L2, hi, hkm, rfl, rfl, hi2, htb, hne3, hs2⟩ := hrel
          have hle2 := srch_len hs2.toSrch h2
          have hm2L := hi2.2.2.2.2.2.2.2.2
          have hm2 : m2 ≤ 256 := by omega
          have I2 := Lib.hid hi2
          have T2 := Lib.hid htb
          have S2 := Lib.hid hs2
          have HM2 := Lib.hid hm2L
          have f0 := htb.cell 0
          have f1 := htb.cell 1
          clear hi2 htb hs2 hm2L
          by_cases hlt2 : i < n
          · have hcan0 := fun w => can_any c.1 n i w c16 h2 hlt2
            by_cases hcan : canB c.1 n i = true
            · rw [hcan] at hcan0
              have HCAN := Lib.hid hcan0
              have hchg := fun w => chg_any c.1 n i w c16 (by omega)
              have hyl := flip_lt HCL.out hlt2
              have hadd := fun h => srchI_add S2.out hlt2 hcan h
              have hskip := fun h => srchI_skip S2.out (Or.inr h)
              generalize c.1 ^^^ 2 ^ i = y at *
              have y16 : y < 65536 := by have := HP8.out; omega
              have HCHG := Lib.hid hchg
              have HADD := Lib.hid hadd
              have HSKIP := Lib.hid hskip
              have HYL := Lib.hid hyl
              clear hcan0 hcan hchg hadd hskip hyl
              go_wp2_with fail
              refine (HCAN.out _).mono ?_
              rintro e w5 ⟨rfl, hb5⟩
              have I5 := Lib.hid (I2.out.below hb5)
              have T5 := Lib.hid (T2.out.below hb5 T2.out.lt)
              have f50 := T5.out.cell 0
              have f51 := T5.out.cell 1
              clear hb5 f0 f1 I2 T2
              go_wp2_with fail
              refine (HCHG.out _).mono ?_
              rintro e w6 ⟨rfl, hb6⟩
              have I6 := Lib.hid ((I5.out.below hb6).alloc (.cells #[.int .u16 (y : Int), .int .i64 (n : Int)] 54))
              have T6 := Lib.hid ((T5.out.below hb6 T5.out.lt).alloc (.cells #[.int .u16 (y : Int), .int .i64 (n : Int)] 54))
              have g60 := (T5.out.below hb6 T5.out.lt).cell 0
              have g61 := (T5.out.below hb6 T5.out.lt).cell 1
              have hl6 := (T5.out.below hb6 T5.out.lt).lt
              have hB6 := (I5.out.below hb6).2.1.lt
              have hg6 := (I5.out.below hb6).1.lt
              clear hb6 f50 f51 I5 T5
              obtain ⟨D, hD1, hD2, hD3⟩ := I6.out.2.1
              have hat := (hD3 c (List.mem_of_getElem? S2.out.cur)).2
              have HAT := Lib.hid hat
              have HD := Lib.hid hD1
              have H2 := Lib.hid hD2
              have H3 := Lib.hid hD3
              have HIM := Lib.hid hD1.isMap
              clear hD1 hD2 hD3 hat
              by_cases hnew : y ∈ L2.map (·.1)
              · have hhas := (H2.out y HYL.out).2 hnew
                have HHAS := Lib.hid hhas
                have I7 := Lib.hid (HSKIP.out hnew)
                clear hhas hnew
                go_wp2_with (first | (at_lookup; refine wpList_lookup_own_ok_int _ rfl (.tmp 74) (.tmp 75) 57 rfl 54 3 .i64 lawTr Try.underlying57 Try.underlying3 (zeroIn _) (w2.heap.size + 1) m2 D rfl HD.out _ (kl y n) rfl (keyTr y n y16 h2) ?_; intro c' hat hwc; rw [HHAS.out]; clear hat hwc))
                go_roundw
                case rel => exact ⟨i + 1, g2, d2, m2, L2, by omega, hkm, by go_num, rfl, I6.out, T6.out, hne3, I7.out⟩
                case measure => simp [intOf]; omega
              · have hhas : Maps.has D (kl y n) = false := by
                  cases h : Maps.has D (kl y n) with
                  | false => rfl
                  | true => exact absurd ((H2.out y HYL.out).1 h) hnew
                have HHAS := Lib.hid hhas
                have HNEW := Lib.hid hnew
                have I7 := Lib.hid (HADD.out hnew)
                clear hhas hnew
                go_wp2_with (first | (at_lookup; refine wpList_lookup_own_ok_int _ rfl (.tmp 74) (.tmp 75) 57 rfl 54 3 .i64 lawTr Try.underlying57 Try.underlying3 (zeroIn _) (w2.heap.size + 1) m2 D rfl HD.out _ (kl y n) rfl (keyTr y n y16 h2) ?_; intro c' hat hwc; rw [HHAS.out]; clear hat hwc))
                have I6d : Hid (ISt w (w6.alloc (.cells #[.int .u16 (y : Int), .int .i64 (n : Int)] 54)).drew n b (w2.heap.size + 1) w2.heap.size L2 g2 d2 m2) := Lib.hid (I6.out.below ⟨rfl, rfl, rfl, Nat.le_refl _, fun _ _ => rfl⟩)
                have T6d : Hid (Blk (w6.alloc (.cells #[.int .u16 (y : Int), .int .i64 (n : Int)] 54)).drew tb 54 #[.int .u16 (c.1 : Int), .int .i64 (n : Int)]) := Lib.hid T6.out
                have Y6d : Hid (Blk (w6.alloc (.cells #[.int .u16 (y : Int), .int .i64 (n : Int)] 54)).drew w6.heap.size 54 #[.int .u16 (y : Int), .int .i64 (n : Int)]) := Lib.hid (Blk.new w6 54 #[.int .u16 (y : Int), .int .i64 (n : Int)])
                have HDd := Lib.hid HD.out.drew
                clear HD
                refine wp_region_still_tail 6 (by kernel_rfl) (by kernel_rfl) ?_
                simp only [List.take_succ_cons, List.take_zero, List.drop_succ_cons, List.drop_zero]
                change wpStill Try.prog _ (World.drew (w6.alloc (.cells #[.int .u16 (y : Int), .int .i64 (n : Int)] 54))) (fun a' => wpList Try.prog _ _ _ a' (World.drew (w6.alloc (.cells #[.int .u16 (y : Int), .int .i64 (n : Int)] 54)))) _ _
                generalize World.drew (w6.alloc (.cells #[.int .u16 (y : Int), .int .i64 (n : Int)] 54)) = W7 at *
                have j0 := T6d.out.cell 0
                have j1 := T6d.out.cell 1
                have y0 := Y6d.out.cell 0
                have y1 := Y6d.out.cell 1
                obtain ⟨c', hrun, hat, _⟩ := HDd.out.lookup_int lawTr Try.underlying57 Try.underlying3 (zeroIn _) (keyTr c.1 n c16 h2)
                have hcc : c' = (c.2 : Int) := by
                  rw [HAT.out] at hat
                  simp only [DataW.lit.injEq, Lit.int.injEq, true_and] at hat
                  exact hat.symm
                subst hcc
                have W64 : Hid ((Lit.int .i64 ((c.2 : Int) + 1)).wf = true) := Lib.hid (wf64 (by omega) (by omega))
                have PE64 : Hid (plainElem (H := Unit) Try.prog 3 (.int .i64 ((c.2 : Int) + 1)) = some (.lit (.int .i64 ((c.2 : Int) + 1)), [])) := Lib.hid (plainElem_int Try.underlying3 W64.out)
                clear hat I6 T6 g60 g61
                have u1 : IntKind.i64.wrap ((c.2 : Int) + 1) = (c.2 : Int) + 1 := IntWalk.i64_in _ (by omega)
                repeat still_step
                refine wpStill_nil ?_
                clear u1
                have fin : ∀ w8, w8.ownsMap Try.prog 54 (plainElem (H := Unit) Try.prog 3) (w2.heap.size + 1) (m2 + 1) (D.put (kl y n) (.lit (.int .i64 ((c.2 : Int) + 1)))) → W7.grownBy w8 (some (w2.heap.size + 1)) →
                    MapIs w8 (w2.heap.size + 1) n (m2 + 1) (L2 ++ [(y, c.2 + 1)]) ∧ OwnV w8 w.heap.size 54 2 g2 d2 m2 (tcs n L2) ∧ Blk w8 w2.heap.size 54 #[.int .u16 (b : Int), .int .i64 (n : Int)] ∧ Blk w8 tb 54 #[.int .u16 (c.1 : Int), .int .i64 (n : Int)] ∧ Blk w8 w6.heap.size 54 #[.int .u16 (y : Int), .int .i64 (n : Int)] ∧ Below w.heap.size w w8 := by
                  intro w8 ho hg
                  have hne := I6d.out.2.2.2
                  refine ⟨map_put h2 HIM.out H2.out H3.out HYL.out HNEW.out (by rw [show ((c.2 + 1 : Nat) : Int) = (c.2 : Int) + 1 from rfl]; exact ho), OwnV.grown I6d.out.1 hg (by intro h; injection h; omega), I6d.out.2.2.1.grown hg (by intro h; injection h; omega), T6d.out.grown hg (by intro h; injection h; omega), Y6d.out.grown hg (by intro h; injection h; omega), below_app hne.2.2.2.2.1 hg hne.2.2.2.1⟩
                have FIN := Lib.hid fin
                clear fin j0 j1 y0 y1 hrun
                refine wpList_mapUpdate_own _ rfl (.tmp 81) (.tmp 82) (.tmp 86) 57 rfl 54 3 lawTr Try.underlying57 _ (w2.heap.size + 1) m2 D rfl HDd.out (by unfold maxLen; omega) (.agg #[.int .u16 (y : Int), .int .i64 (n : Int)]) (.int .i64 ((c.2 : Int) + 1)) (kl y n) rfl rfl (keyTr y n y16 h2) (.lit (.int .i64 ((c.2 : Int) + 1))) [] PE64.out ?_
                intro w8 hown8 hg8
                have F8 := Lib.hid (FIN.out w8 hown8 hg8)
                have y0 := F8.out.2.2.2.2.1.cell 0
                have y1 := F8.out.2.2.2.2.1.cell 1
                clear hown8 hg8
                go_wp2_with (at_builtin; refine wpList_app1 slTr rfl (.tmp 87) (.tmp 89) rfl _ rfl F8.out.2.1 rfl rfl (by simp [Value.oneCell']) (by unfold maxLen; omega) (by omega) ?_; intro g9 c9 w9 hown9 hg9 hat9)
                have hne := I6d.out.2.2.2
                have hi9 : ISt w w9 n b (w2.heap.size + 1) w2.heap.size (L2 ++ [(y, c.2 + 1)]) g9 c9 (m2 + 1) := by
                  have hB8 := F8.out.1.lt
                  have hl8 := F8.out.2.2.1.lt
                  refine ⟨?_, F8.out.1.kept hg9 (by intro h; injection h; omega), F8.out.2.2.1.grown hg9 (by intro h; injection h; omega), by rcases hat9 with h | h <;> omega, by rcases hat9 with h | h <;> omega, hne.2.2.1, hne.2.2.2.1, below_app F8.out.2.2.2.2.2 hg9 F8.out.2.1.le, by simp; exact HM2.out⟩
                  rw [tcs_snoc]
                  exact hown9
                have I9 := Lib.hid hi9
                have T9 := Lib.hid (F8.out.2.2.2.1.grown hg9 (by intro h; injection h; omega))
                have N9 : Hid (tb ≠ g9) := Lib.hid (by have := F8.out.2.2.2.1.lt; rcases hat9 with h | h <;> omega)
                clear hi9 hown9 hg9 hat9 hne F8 y0 y1
                go_wp2
                go_roundw
                case rel => exact ⟨i + 1, g9, c9, m2 + 1, _, by omega, by omega, by go_num, rfl, I9.out, T9.out, N9.out, I7.out⟩
                case measure => simp [intOf]; omega
            · have hcan' : canB c.1 n i = false := by simpa using hcan
              rw [hcan'] at hcan0
              have HCAN := Lib.hid hcan0
              have I3 := Lib.hid (srchI_skip S2.out (Or.inl hcan'))
              clear hcan0 hcan hcan'
              go_wp2_with fail
              refine (HCAN.out _).mono ?_
              rintro e w5 ⟨rfl, hb5⟩
              have I5 := Lib.hid (I2.out.below hb5)
              have T5 := Lib.hid (T2.out.below hb5 T2.out.lt)
              clear hb5
              go_wp2_with fail
              go_roundw
              case rel => exact ⟨i + 1, g2, d2, m2, L2, by omega, hkm, by go_num, rfl, I5.out, T5.out, hne3, I3.out⟩
              case measure => simp [intOf]; omega
          · obtain rfl : i = n := by omega
            have E2 := Lib.hid (srchI_end S2.out HCB.out)
            go_wp2_with fail
            go_roundw
            case rel => exact ⟨k + 1, g2, d2, m2, L2, by omega, by go_num, rfl, I2.out, E2.out⟩
            case measure => simp [intOf]; omega
    · have hkL : k = L.length := by have := HML.out; have := S1.out.kle; omega
      have hway : IsWay n a b (-1) := srch_miss (by have := S1.out; rw [hkL] at this; exact this)
      have HWAY := Lib.hid hway
      have B1 := Lib.hid I1.out.2.2.2.2.2.2.2.1
      clear hkL hway
      go_wp2_with fail
      go_ret
      exact ⟨_, rfl, HWAY.out, B1.out⟩

end Go.Proofs.Ytkfgimhihknpoaa
