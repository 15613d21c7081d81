/-
  Notes without which two registers agree: of the program; marks in notes. No condition but lengths that fit.
-/
import Derived.Test.YtebejpaghajhkaaRg12
import Derived.Test.YtebejpaghajhkaaStrs
import Derived.Deep.DeepCutAuto
namespace Go.Proofs.Ytebejpaghajhkaa
open Go.RowKit
set_option linter.unusedVariables false
set_option linter.unusedSimpArgs false

/-- A register stays where a row of another type grows. -/
theorem blk_row_ne {w : World} {base g c m P : Nat} {zs : List Int} {T : TypeId} {cs : Array Value} (h : OwnM w base g c m zs) (k : Blk w P T cs) (hT : T ≠ 3) : P ≠ g := by
  rintro rfl
  obtain ⟨_, cur, _, hh, _⟩ := OwnV.parts h
  unfold Blk at k
  rw [k] at hh
  injection hh with hh
  injection hh with _ h2 _
  exact hT h2
theorem Reg.rowOut {w w' : World} {base R : Nat} {E : Nat → Nat} {ns : List NV} {b0 g c m : Nat} {zs : List Int} (h : Reg w base R E ns) (ho : OwnM w b0 g c m zs) (h1 : (80 : TypeId) ≠ 3) (h2 : (82 : TypeId) ≠ 3) (hg : w.grownBy w' (some g)) : Reg w' base R E ns := by
  obtain ⟨a1, a2, a3, a4, a5⟩ := h
  exact ⟨a1.grown hg (fun e => blk_row_ne ho a1 h1 (by injection e)), fun k hk => (a2 k hk).grown hg (fun e => blk_row_ne ho (a2 k hk) h2 (by injection e)), a3, a4, a5⟩
set_option maxRecDepth 100000 in
set_option maxHeartbeats 3200000 in
theorem implMissing_any (A A' : Option Addr) (c c' : Nat) (xs ys : List NV) (sl : Int) (w : World) (hs : SzNt xs) (hs' : SzNt ys) (hr : RdNt w A xs) (hr' : RdNt w A' ys) :
    Calls Try.prog 37 #[.slice A xs.length c, .slice A' ys.length c', .int .i64 sl] w (NewInts w (misV xs ys sl)) := by
  have O0 := Lib.hid (ownM_empty w w.heap.size (Nat.le_refl _))
  have B0 := Lib.hid (below_new w (.cells #[] 3))
  have HRO := Lib.hid (fun W (k : Below w.heap.size w W) => registerOf_any A c xs W (by have := hs.1; omega) hs.2 (hr.below k))
  have HRO' := Lib.hid (fun W (k : Below w.heap.size w W) => registerOf_any A' c' ys W (by have := hs'.1; omega) hs'.2 (hr'.below k))
  obtain ⟨V, hV⟩ : ∃ V, misV xs ys sl = V := ⟨_, rfl⟩
  rw [hV]
  have HV := Lib.hid hV
  clear hr hr' hs hs' hV
  cases hv : regB xs with
  | true =>
    rw [hv] at HRO
    cases hv' : regB ys with
    | true =>
      rw [hv'] at HRO'
      have HVN : Hid (V = misK xs ys sl xs.length) := Lib.hid (by rw [← HV.out]; unfold misV; rw [hv, hv']; rfl)
      have hn30 := reg_len hv
      have HWO := Lib.hid (fun base R E (k : Nat) w hk h => without_any base R E xs k w hn30 hk h)
      have HOF := Lib.hid (fun base R base' R' E E' (k : Nat) (hk : k < xs.length) W h3 h4 => offset_any base R base' R' E E' (wo xs k) ys sl W (reg_wo hv hk) hv' h3 h4)
      clear hv hv'
      go_enter Try.func37, Try.ntmps37
      go_wp2_with fail
      generalize w.alloc (.cells #[] 3) = W1 at *
      refine (HRO.out _ B0.out).mono ?_
      rintro e w1 ⟨R, rfl, hb1, hex⟩
      obtain ⟨E, hr1⟩ := hex rfl
      have B1 := Lib.hid (below_to B0.out hb1 B0.out.size)
      have R1 := Lib.hid hr1
      have O1 : Hid (OwnM w1 w.heap.size w.heap.size 0 0 []) := Lib.hid (OwnV.below O0.out hb1 O0.out.lt)
      clear hb1 hr1 hex O0
      go_wp2_with fail
      refine (HRO'.out _ B1.out).mono ?_
      rintro e w2 ⟨R', rfl, hb2, hex⟩
      obtain ⟨E', hr2⟩ := hex rfl
      have R2 := Lib.hid hr2
      have R1' := Lib.hid (R1.out.below hb2)
      have B2 := Lib.hid (below_to B1.out hb2 B1.out.size)
      have O2 : Hid (OwnM w2 w.heap.size w.heap.size 0 0 []) := Lib.hid (OwnV.below O1.out hb2 O1.out.lt)
      obtain ⟨_, _, c2, _, _, _⟩ := R1'.out.cells
      clear hb2 hr2 hex R1 HRO HRO' O1 B1
      go_wp2_with fail
      go_loopw [7, 37] (fun o i wr => ∃ (k g d m : Nat), k ≤ xs.length ∧ i = .int .i64 k ∧ o = .slice (some ⟨g, 0, none⟩) m d ∧ m ≤ k ∧ OwnM wr w.heap.size g d m (misK xs ys sl k) ∧ Below w.heap.size w wr ∧ Reg wr W1.heap.size R E xs ∧ Reg wr w1.heap.size R' E' ys) (fun _ i _ => xs.length - (intOf i).toNat)
      case atStart => exact ⟨0, w.heap.size, 0, 0, Nat.zero_le _, rfl, rfl, Nat.le_refl _, O2.out, B2.out, R1'.out, R2.out⟩
      case round =>
        clear O2 B2 R1' R2 c2
        obtain ⟨k, g, d, m, hk, rfl, rfl, hmk, hown, hbel, hrx, hry⟩ := hrel
        have HO := Lib.hid hown
        have HB := Lib.hid hbel
        have RX := Lib.hid hrx
        have RY := Lib.hid hry
        clear hown hbel hrx hry
        by_cases hlt : k < xs.length
        · have hwo := HWO.out _ _ _ k wr hlt RX.out
          have HWW := Lib.hid hwo
          have HLT := Lib.hid hlt
          have hms : misK xs ys sl (k + 1) = if (offJ (wo xs k) ys sl).isSome then misK xs ys sl k ++ [(k : Int)] else misK xs ys sl k := rfl
          have HMS := Lib.hid hms
          obtain ⟨vx, hvx⟩ := offE_is (offJ (wo xs k) ys sl)
          have HVX := Lib.hid hvx
          clear hwo hms hvx
          go_wp2_with fail
          refine HWW.out.mono ?_
          rintro e w3 ⟨R3, E3, rfl, hr3, hb3⟩
          have HOO := HOF.out _ _ _ _ _ _ k HLT.out w3 hr3 (RY.out.below hb3)
          rw [HVX.out] at HOO
          have B3 := Lib.hid (below_to HB.out hb3 HB.out.size)
          have O3 : Hid (OwnM w3 w.heap.size g d m (misK xs ys sl k)) := Lib.hid (OwnV.below HO.out hb3 HO.out.lt)
          have RX3 := Lib.hid (RX.out.below hb3)
          have RY3 := Lib.hid (RY.out.below hb3)
          obtain ⟨vb, hvb⟩ : ∃ vb, (offJ (wo xs k) ys sl).isSome = vb := ⟨_, rfl⟩
          rw [hvb] at HOO HMS
          have HOF3 := Lib.hid HOO
          clear hr3 hb3 HOO hvb
          go_wp2_with fail
          refine HOF3.out.mono ?_
          rintro e w4 ⟨rfl, hb4⟩
          have B4 := Lib.hid (below_to B3.out hb4 B3.out.size)
          have O4 : Hid (OwnM w4 w.heap.size g d m (misK xs ys sl k)) := Lib.hid (OwnV.below O3.out hb4 O3.out.lt)
          have RX4 := Lib.hid (RX3.out.below hb4)
          have RY4 := Lib.hid (RY3.out.below hb4)
          clear hb4
          cases vb with
          | true =>
            go_wp2_with (at_builtin; refine wpList_app1i rfl (.tmp 50) (.tmp 52) rfl _ rfl O4.out rfl (by omega) ?_; intro g9 c9 w9 hown9 hg9 hat9)
            have O9 : Hid (OwnM w9 w.heap.size g9 c9 (m + 1) (misK xs ys sl (k + 1))) := Lib.hid (by rw [HMS.out]; exact hown9)
            have B9 := Lib.hid (below_app B4.out hg9 O4.out.le)
            have RX9 : Hid (Reg w9 W1.heap.size R E xs) := Lib.hid (RX4.out.rowOut O4.out (by decide) (by decide) hg9)
            have RY9 : Hid (Reg w9 w1.heap.size R' E' ys) := Lib.hid (RY4.out.rowOut O4.out (by decide) (by decide) hg9)
            clear hown9 hg9 hat9
            go_wp2_with fail
            go_roundw
            case rel => exact ⟨k + 1, g9, c9, m + 1, by have := HLT.out; omega, by go_num, rfl, by omega, O9.out, B9.out, RX9.out, RY9.out⟩
            case measure => simp [intOf]; omega
          | false =>
            have O9 : Hid (OwnM w4 w.heap.size g d m (misK xs ys sl (k + 1))) := Lib.hid (by rw [HMS.out]; exact O4.out)
            go_wp2_with fail
            go_roundw
            case rel => exact ⟨k + 1, g, d, m, by have := HLT.out; omega, by go_num, rfl, by omega, O9.out, B4.out, RX4.out, RY4.out⟩
            case measure => simp [intOf]; omega
        · obtain rfl : k = xs.length := by omega
          have HL := Lib.hid (OwnM.len HO.out)
          go_wp2_with fail
          go_ret
          exact ⟨g, d, ret_sl (show m = V.length by rw [HVN.out]; exact HL.out), by rw [HVN.out]; exact HO.out.own, HB.out⟩
    | false =>
      rw [hv'] at HRO'
      have HVN : Hid (V = []) := Lib.hid (by rw [← HV.out]; unfold misV; rw [hv, hv']; rfl)
      clear hv hv'
      go_enter Try.func37, Try.ntmps37
      go_wp2_with fail
      generalize w.alloc (.cells #[] 3) = W1 at *
      refine (HRO.out _ B0.out).mono ?_
      rintro e w1 ⟨R, rfl, hb1, _⟩
      have B1 := Lib.hid (below_to B0.out hb1 B0.out.size)
      have O1 : Hid (OwnM w1 w.heap.size w.heap.size 0 0 []) := Lib.hid (OwnV.below O0.out hb1 O0.out.lt)
      clear hb1
      go_wp2_with fail
      refine (HRO'.out _ B1.out).mono ?_
      rintro e w2 ⟨R', rfl, hb2, _⟩
      have B2 := Lib.hid (below_to B1.out hb2 B1.out.size)
      have O2 : Hid (OwnM w2 w.heap.size w.heap.size 0 0 []) := Lib.hid (OwnV.below O1.out hb2 O1.out.lt)
      clear hb2
      go_wp2_with fail
      go_ret
      exact ⟨w.heap.size, 0, by rw [HVN.out]; rfl, by rw [HVN.out]; exact O2.out.own, B2.out⟩
  | false =>
    rw [hv] at HRO
    have HVN : Hid (V = []) := Lib.hid (by rw [← HV.out]; unfold misV; rw [hv]; rfl)
    generalize regB ys = V' at *
    clear hv
    go_enter Try.func37, Try.ntmps37
    go_wp2_with fail
    generalize w.alloc (.cells #[] 3) = W1 at *
    refine (HRO.out _ B0.out).mono ?_
    rintro e w1 ⟨R, rfl, hb1, _⟩
    have B1 := Lib.hid (below_to B0.out hb1 B0.out.size)
    have O1 : Hid (OwnM w1 w.heap.size w.heap.size 0 0 []) := Lib.hid (OwnV.below O0.out hb1 O0.out.lt)
    clear hb1
    go_wp2_with fail
    refine (HRO'.out _ B1.out).mono ?_
    rintro e w2 ⟨R', rfl, hb2, _⟩
    have B2 := Lib.hid (below_to B1.out hb2 B1.out.size)
    have O2 : Hid (OwnM w2 w.heap.size w.heap.size 0 0 []) := Lib.hid (OwnV.below O1.out hb2 O1.out.lt)
    clear hb2
    go_wp2_with fail
    go_ret
    exact ⟨w.heap.size, 0, by rw [HVN.out]; rfl, by rw [HVN.out]; exact O2.out.own, B2.out⟩

/-- What markNoteS leaves: its row alone has turned. -/
def MarkedN (w : World) (g : Nat) (v : Int) (e : Ending) (w' : World) : Prop := e = .returned (.int .i64 v) ∧ w.grownBy w' (some g)
set_option maxHeartbeats 1600000 in
theorem markNoteS_any (base g c : Nat) (ns : List NV) (k : Nat) (w : World) (hn : ns.length ≤ 1048576) (hk : 1 ≤ k) (hk' : k ≤ 1099511627776) (ho : OwnN w base g c ns) :
    Calls Try.prog 39 #[.slice (some ⟨g, 0, none⟩) ns.length c, .int .i64 k] w (MarkedN w g ((k : Int) + 2 * ns.length)) := by
  obtain ⟨n, hnn⟩ : ∃ n, ns.length = n := ⟨_, rfl⟩
  have HO := Lib.hid ho
  have HNN := Lib.hid hnn
  rw [hnn] at hn ⊢
  clear ho hnn
  go_enter Try.func39, Try.ntmps39
  go_wp2_with fail
  go_loopw [1, 5] (fun q i wr => ∃ (j : Nat) (ms : List NV), j ≤ n ∧ i = .int .i64 j ∧ q = .int .i64 ((k : Int) + 2 * j) ∧ Hid (ms.length = n) ∧ OwnN wr base g c ms ∧ w.grownBy wr (some g)) (fun _ i _ => n - (intOf i).toNat)
  case atStart => exact ⟨0, ns, Nat.zero_le _, rfl, by simp, HNN, HO.out, World.grownBy.refl _ _⟩
  case round =>
    obtain ⟨j, ms, hj, rfl, rfl, HM, hown, hgr⟩ := hrel
    have HG := Lib.hid hgr
    have HOW := Lib.hid hown
    clear hgr hown
    by_cases hlt : j < n
    · have hjm : j < ms.length := by have := HM.out; omega
      obtain ⟨c0, c1, f0, f1⟩ := HOW.out.facts j hjm
      have hmt := fun w => markText_any (k + 2 * j + 1) w (by omega) (by omega)
      have e1 : ((k + 2 * j + 1 : Nat) : Int) = (k : Int) + 2 * j + 1 := by omega
      rw [e1] at hmt
      have HMT := Lib.hid hmt
      have hst : OwnV (wr.setCell ⟨g, j * 2, none⟩ (.int .i64 ((k : Int) + 2 * j))) base 48 2 g c ms.length ((ncells ms).set (j * 2) (.int .i64 ((k : Int) + 2 * j))) := OwnV.store HOW.out (j * 2) _
      have HS := Lib.hid hst
      have HG2 := Lib.hid (grownBy_trans HG.out (⟨rfl, rfl, rfl, by simp, fun i _ hne => Below.heap_setCell _ _ _ _ (fun e => hne (by rw [e]))⟩ : wr.grownBy (wr.setCell ⟨g, j * 2, none⟩ (.int .i64 ((k : Int) + 2 * j))) (some g)))
      have i1 : (j : Int) < (n : Int) := by omega
      have HJM := Lib.hid hjm
      clear hmt e1 hst hjm
      go_upto_region 6 with fail
      generalize wr.setCell ⟨g, j * 2, none⟩ (.int .i64 ((k : Int) + 2 * j)) = W2 at *
      go_wp2_with fail
      refine (HMT.out _).mono ?_
      rintro e w3 ⟨rfl, hb3⟩
      have hown := OwnV.below HS.out hb3 HS.out.lt
      have hgr : w.grownBy w3 (some g) := grownBy_trans HG2.out ⟨hb3.os, hb3.tape, hb3.output, hb3.size, fun i hi _ => hb3.block i hi⟩
      have hc := hown.cell (j * 2 + 1) (by have := HJM.out; omega)
      have hj' : ((ncells ms).set (j * 2) (.int .i64 ((k : Int) + 2 * j)))[j * 2 + 1]? = some (.string (ms.getD j Z2).2) := by
        rw [List.getElem?_set_ne (by omega)]
        exact (ncells_get ms j HJM.out).2
      rw [hj'] at hc
      obtain ⟨x, hx⟩ : ∃ x, (ms.getD j Z2).2 = x := ⟨_, rfl⟩
      rw [hx] at hc
      have hf := hown.frozen (j * 2 + 1)
      have hs2 := hown.store (j * 2 + 1) (.string (mt (k + 2 * j + 1)))
      rw [ncells_set ms ((k : Int) + 2 * j, mt (k + 2 * j + 1)) j HJM.out] at hs2
      have O3 : Hid (OwnN (w3.setCell ⟨g, j * 2 + 1, none⟩ (.string (mt (k + 2 * j + 1)))) base g c (ms.set j ((k : Int) + 2 * j, mt (k + 2 * j + 1)))) := Lib.hid (by unfold OwnN OwnNm; rw [List.length_set]; exact hs2)
      have HG3 := Lib.hid hgr
      have HM3 : Hid ((ms.set j ((k : Int) + 2 * j, mt (k + 2 * j + 1))).length = n) := Lib.hid (by rw [List.length_set]; exact HM.out)
      generalize mt (k + 2 * j + 1) = M at *
      clear hown hgr hb3 hj' hx hs2
      go_wp2_with fail
      go_roundw
      case rel => exact ⟨j + 1, _, by omega, by go_num, by go_num, HM3, O3.out, grownBy_trans HG3.out ⟨rfl, rfl, rfl, by simp, fun i _ hne => Below.heap_setCell _ _ _ _ (fun e => hne (by rw [e]))⟩⟩
      case measure => simp [intOf]; omega
    · obtain rfl : j = n := by omega
      go_wp2_with fail
      go_ret
      exact ⟨rfl, HG.out⟩
end Go.Proofs.Ytebejpaghajhkaa
