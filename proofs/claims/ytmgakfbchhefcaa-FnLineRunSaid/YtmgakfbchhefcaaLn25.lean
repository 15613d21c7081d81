/-
  Lines: LineRun of the implementation. No condition.
-/
import Derived.Test.YtmgakfbchhefcaaLn18
namespace Go.Proofs.Ytmgakfbchhefcaa
open Go.RowKit
set_option linter.unusedVariables false
set_option linter.unusedSimpArgs false

/-- A run of moves. -/
def foldI (bs : List BV) (ts : List Int) : List MV → Option (List BV × List Int)
  | [] => some (bs, ts)
  | m :: ms => match stepI bs ts m.1 m.2 with
    | none => none
    | some p => foldI p.1 p.2 ms
def runL (bs : List BV) (ts : List Int) (ms : List MV) : Option (List BV × List Int) := if lineB bs ts then foldI bs ts ms else none
def ShortL (ms : List MV) : Prop := ∀ k, k < ms.length → (ms.getD k Z2m).2.size ≤ 8
theorem foldI_drop {bs bs' : List BV} {ts ts' : List Int} {ms : List MV} {i : Nat} (hi : i < ms.length) : foldI bs ts (ms.drop i) = (match stepI bs ts (ms.getD i Z2m).1 (ms.getD i Z2m).2 with
    | none => none
    | some p => foldI p.1 p.2 (ms.drop (i + 1))) := by
  have e : ms.drop i = ms.getD i Z2m :: ms.drop (i + 1) := by
    rw [List.drop_eq_getElem_cons hi]
    congr 1
    simp [List.getD, hi]
  rw [e]
  rfl
theorem stepI_len {bs bs' : List BV} {ts ts' : List Int} {m : Int} {s : ByteArray} (h : stepI bs ts m s = some (bs', ts')) : bs'.length = bs.length ∧ ts'.length = ts.length := by
  unfold stepI at h
  split at h
  · exact stepU_len h
  · cases h

set_option maxHeartbeats 3200000 in
theorem implLRun_any (b c t c' : Nat) (bs : List BV) (ts : List Int) (a off cm : Nat) (ms : List MV) (w : World) (hn : bs.length ≤ 1048576) (hm : ts.length ≤ 1048576) (hk : ms.length ≤ 1048576) (hs : ShortL ms) (hb : b < w.heap.size) (ht : t < w.heap.size) (hx : a < w.heap.size) (ha : AtBl w b 0 bs) (hi : AtInts w t 0 ts) (hms : AtMv w a off ms) :
    Calls Try.prog 24 #[.agg #[.slice (some ⟨b, 0, none⟩) bs.length c, .slice (some ⟨t, 0, none⟩) ts.length c'], .slice (some ⟨a, off, none⟩) ms.length cm] w (StepO w (runL bs ts ms)) := by
  let W2 := (w.alloc (.cells #[.slice (some ⟨b, 0, none⟩) bs.length c, .slice (some ⟨t, 0, none⟩) ts.length c'] 32)).alloc (.cells #[.slice none 0 0, .slice none 0 0] 32)
  have b2 : Below w.heap.size w W2 := below_new' (below_new w _) _
  have k2 : Blk W2 (w.heap.size + 1) 32 #[.slice none 0 0, .slice none 0 0] := by simpa using Blk.new (w.alloc _) _ _
  have hsz : W2.heap.size = w.heap.size + 2 := by simp [W2]
  have hrw := railwayOf_any b c t c' bs ts W2 hn hm (Nat.lt_of_lt_of_le hb b2.size) (Nat.lt_of_lt_of_le ht b2.size) (ha.below b2 hb) (hi.below b2 ht)
  have B2 := Lib.hid b2
  have K2 := Lib.hid k2
  have HSZ := Lib.hid hsz
  have MS := Lib.hid (hms.below b2 hx)
  have HX := Lib.hid (Nat.lt_of_lt_of_le hx b2.size)
  have HSH := Lib.hid hs
  clear b2 k2 hsz ha hi hms hs
  by_cases hV : lineB bs ts = true
  · have h5 := lineB_n hV
    rw [hV] at hrw
    have HRW := Lib.hid hrw
    unfold runL
    rw [if_pos hV]
    obtain ⟨O, hO⟩ : ∃ O, foldI bs ts ms = O := ⟨_, rfl⟩
    rw [hO]
    have HO := Lib.hid hO
    clear hV hrw hO
    go_enter Try.func24, Try.ntmps24
    go_wp2_with fail
    refine HRW.out.mono ?_
    rintro e w4 ⟨p, rfl, hb4, hv4⟩
    obtain ⟨R, g, d, g', d', rfl, hr4⟩ := hv4 rfl
    have B4 := Lib.hid (below_to B2.out hb4 B2.out.size)
    have R4 := Lib.hid hr4
    have L4 := Lib.hid (K2.out.below hb4 K2.out.lt)
    have M4 := Lib.hid (MS.out.below hb4 HX.out)
    have X4 : Hid (W2.heap.size ≤ w4.heap.size) := Lib.hid hb4.size
    clear hb4 hv4 hr4 HRW MS
    go_wp2_with fail
    go_loopw [20] (fun q wr => ∃ (i : Nat) (bi : List BV) (ti : List Int) (h f h' f' : Nat), i ≤ ms.length ∧ q = .int .i64 i ∧ bi.length = bs.length ∧ ti.length = ts.length ∧ foldI bi ti (ms.drop i) = O ∧ Below w.heap.size w wr ∧ RwO wr W2.heap.size R h f h' f' bi ti ∧ Blk wr (w.heap.size + 1) 32 #[.slice none 0 0, .slice none 0 0] ∧ AtMv wr a off ms) (fun q _ => ms.length - (intOf q).toNat)
    case atStart => exact ⟨0, bs, ts, g, d, g', d', by omega, rfl, rfl, rfl, by rw [List.drop_zero]; exact HO.out, B4.out, R4.out, L4.out, M4.out⟩
    case round =>
      clear B4 R4 L4 M4 HO
      obtain ⟨i, bi, ti, h, f, h', f', hi, rfl, hl1, hl2, hfo, hb, hr, hk2, hat⟩ := hrel
      have HFO := Lib.hid hfo
      have B5 := Lib.hid hb
      have R5 := Lib.hid hr
      have K5 := Lib.hid hk2
      have A5 := Lib.hid hat
      have h51 : bi.length ≤ 5 := by omega
      have h52 : ti.length ≤ 5 := by omega
      have HLL := Lib.hid (And.intro hl1 hl2)
      clear hl1 hl2 hfo hb hr hk2 hat
      by_cases hlt : i < ms.length
      · obtain ⟨x0, x1⟩ := A5.out i hlt
        have hdr := foldI_drop (bs := bi) (ts := ti) (bs' := []) (ts' := []) hlt
        rw [HFO.out] at hdr
        have hsz := HSH.out i hlt
        generalize ms.getD i Z2m = mv at *
        obtain ⟨k, s⟩ := mv
        simp only at hdr hsz x0 x1
        have hmv := fun W h0 => move_any W2.heap.size R h f h' f' bi ti k s W h51 h52 (by omega) h0
        obtain ⟨o, ho⟩ : ∃ o, stepI bi ti k s = o := ⟨_, rfl⟩
        rw [ho] at hmv hdr
        have i1 : (i : Int) < (ms.length : Int) := by omega
        have R5' := Lib.hid (R5.out.below (below_new wr (.cells #[.int .i64 k, .string s] 36)))
        have K5' := Lib.hid (Blk.alloc K5.out (.cells #[.int .i64 k, .string s] 36))
        have A5' : Hid (AtMv (wr.alloc (.cells #[.int .i64 k, .string s] 36)) a off ms) := Lib.hid (A5.out.below (below_new wr _) (Nat.lt_of_lt_of_le HX.out (by have := B5.out.size; have := R5.out.1.lt; have := R5.out.2.2.2.1; omega)))
        have B5' := Lib.hid (below_new' B5.out (.cells #[.int .i64 k, .string s] 36))
        have HDR := Lib.hid hdr
        cases o with
        | none =>
          unfold MoveO at hmv
          simp only at hmv
          have HMV := Lib.hid hmv
          clear hmv ho hdr hsz hlt
          go_wp2_with fail
          refine (HMV.out _ R5'.out).mono ?_
          rintro e w6 ⟨rfl, hb6, _⟩
          have B6 := Lib.hid (below_to B5'.out hb6 (by have := HSZ.out; omega))
          have L2 := Lib.hid (K5'.out.below hb6 (by have := HSZ.out; omega))
          obtain ⟨c0, c1, f0, f1⟩ := blkCells2 L2.out
          clear hb6 x0 x1
          go_wp2_with fail
          have F := store2 B6.out (by omega) L2.out (.slice none 0 0) (.slice none 0 0)
          exact bodyPost_ret (v := .tuple #[.agg #[.slice none 0 0, .slice none 0 0], .bool false]) (by have r0 := F.2.1; have r1 := F.2.2; simp [results, Try.results24, go_sem, r0, r1]) rfl (by rw [HDR.out]; exact ⟨rfl, F.1⟩)
        | some p =>
          obtain ⟨bn, tn⟩ := p
          have hln := stepI_len ho
          unfold MoveO at hmv
          simp only at hmv hdr
          have HMV := Lib.hid hmv
          have HLN := Lib.hid hln
          clear hmv ho hdr hsz hlt hln
          go_wp2_with fail
          refine (HMV.out _ R5'.out).mono ?_
          rintro e w6 ⟨rfl, hb6, hr6⟩
          have B6 := Lib.hid (below_to B5'.out hb6 (by have := HSZ.out; omega))
          have L2 := Lib.hid (K5'.out.below hb6 (by have := HSZ.out; omega))
          have A6 := Lib.hid (A5'.out.below hb6 HX.out)
          have R6 := Lib.hid hr6
          clear hb6 x0 x1 hr6
          go_wp2_with fail
          go_roundw
          case rel => exact ⟨i + 1, bn, tn, h, f, h', f', by omega, by go_num, HLN.out.1.trans HLL.out.1, HLN.out.2.trans HLL.out.2, HDR.out.symm, B6.out, R6.out, L2.out, A6.out⟩
          case measure => simp [intOf]; omega
      · obtain rfl : i = ms.length := by omega
        have hfin := HFO.out
        rw [List.drop_length] at hfin
        obtain rfl : O = some (bi, ti) := hfin.symm
        have hln := fun W h0 => line_any W2.heap.size R h f h' f' bi ti W h51 h52 h0
        have HLN := Lib.hid hln
        clear hfin hln hlt HFO
        go_wp2_with fail
        refine (HLN.out _ R5.out).mono ?_
        rintro e w6 ⟨u, d6, u', d6', rfl, ho6, ho6', hne, hb6⟩
        have B6 := Lib.hid (below_to B5.out hb6 B5.out.size)
        have M2 := Lib.hid (K5.out.below hb6 K5.out.lt)
        have O6 : Hid (LnO w6 wr.heap.size u d6 u' d6' bi ti) := Lib.hid ⟨ho6, ho6', hne⟩
        obtain ⟨c0, c1, f0, f1⟩ := blkCells2 M2.out
        clear hb6 ho6 ho6' hne
        go_wp2_with fail
        have F := store2 B6.out (by omega) M2.out (.slice (some ⟨u, 0, none⟩) bi.length d6) (.slice (some ⟨u', 0, none⟩) ti.length d6')
        have g1 := O6.out.1.le
        have g2 := O6.out.2.1.le
        have g3 := K5.out.lt
        have G := (O6.out.far (p := ⟨w.heap.size + 1, 0, none⟩) (by show u ≠ w.heap.size + 1; omega) (by show u' ≠ w.heap.size + 1; omega) (.slice (some ⟨u, 0, none⟩) bi.length d6)).far (p := ⟨w.heap.size + 1, 1, none⟩) (by show u ≠ w.heap.size + 1; omega) (by show u' ≠ w.heap.size + 1; omega) (.slice (some ⟨u', 0, none⟩) ti.length d6')
        have b5 := B5.out.size
        exact bodyPost_ret (v := .tuple #[.agg #[.slice (some ⟨u, 0, none⟩) bi.length d6, .slice (some ⟨u', 0, none⟩) ti.length d6'], .bool true]) (by have r0 := F.2.1; have r1 := F.2.2; simp [results, Try.results24, go_sem, r0, r1]) rfl ⟨u, d6, u', d6', rfl, OwnV.mono G.1 (by omega), OwnV.mono G.2.1 (by omega), G.2.2, F.1⟩
  · have hV' : lineB bs ts = false := by simpa using hV
    rw [hV'] at hrw
    unfold runL
    rw [if_neg hV]
    unfold StepO
    simp only
    have HRW := Lib.hid hrw
    clear hV hV' hrw
    go_enter Try.func24, Try.ntmps24
    go_wp2_with fail
    refine HRW.out.mono ?_
    rintro e w4 ⟨p, rfl, hb4, _⟩
    have B4 := Lib.hid (below_to B2.out hb4 B2.out.size)
    have L2 := Lib.hid (K2.out.below hb4 K2.out.lt)
    obtain ⟨c0, c1, f0, f1⟩ := blkCells2 L2.out
    clear hb4
    go_wp2_with fail
    have F := store2 B4.out (by omega) L2.out (.slice none 0 0) (.slice none 0 0)
    exact bodyPost_ret (v := .tuple #[.agg #[.slice none 0 0, .slice none 0 0], .bool false]) (by have r0 := F.2.1; have r1 := F.2.2; simp [results, Try.results24, go_sem, r0, r1]) rfl ⟨rfl, F.1⟩
end Go.Proofs.Ytmgakfbchhefcaa
