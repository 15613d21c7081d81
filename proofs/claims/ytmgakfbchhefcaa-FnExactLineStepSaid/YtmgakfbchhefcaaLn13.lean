/-
  Lines: LineStep of the program. No condition.
-/
import Derived.Test.YtmgakfbchhefcaaLn12
namespace Go.Proofs.Ytmgakfbchhefcaa
open Go.RowKit
set_option linter.unusedVariables false
set_option linter.unusedSimpArgs false

/-- Two cells of a block of the call's own, written. -/
theorem store2 {w W : World} {R : Nat} {T : TypeId} {a0 b0 : Value} (h : Below w.heap.size w W) (hR : w.heap.size ≤ R) (k : Blk W R T #[a0, b0]) (a b : Value) :
    Below w.heap.size w ((W.setCell ⟨R, 0, none⟩ a).setCell ⟨R, 1, none⟩ b) ∧ ((W.setCell ⟨R, 0, none⟩ a).setCell ⟨R, 1, none⟩ b).cell? ⟨R, 0, none⟩ = some a ∧ ((W.setCell ⟨R, 0, none⟩ a).setCell ⟨R, 1, none⟩ b).cell? ⟨R, 1, none⟩ = some b := by
  have k1 := (k.set_ 0 a).set_ 1 b
  refine ⟨(h.setCell hR _).setCell hR _, ?_, ?_⟩
  · rw [k1.cell 0]; simp
  · rw [k1.cell 1]; simp
theorem blkCells2 {W : World} {R : Nat} {T : TypeId} {a b : Value} (k : Blk W R T #[a, b]) : W.cell? ⟨R, 0, none⟩ = some a ∧ W.cell? ⟨R, 1, none⟩ = some b ∧ W.frozen? ⟨R, 0, none⟩ = false ∧ W.frozen? ⟨R, 1, none⟩ = false := by
  have h0 := k.cell 0
  have h1 := k.cell 1
  exact ⟨by simpa using h0, by simpa using h1, k.frozen 0, k.frozen 1⟩
/-- A line of the call's own. -/
def LnO (W : World) (base g d g' d' : Nat) (bs : List BV) (ts : List Int) : Prop := OwnB W base g d bs ∧ Own W base g' d' ts ∧ g ≠ g'
theorem LnO.far {W : World} {base g d g' d' : Nat} {bs : List BV} {ts : List Int} (h : LnO W base g d g' d' bs ts) {p : Addr} (h1 : g ≠ p.block) (h2 : g' ≠ p.block) (v : Value) : LnO (W.setCell p v) base g d g' d' bs ts := ⟨OwnV.far h.1 h1 _, OwnV.far h.2.1 h2 _, h.2.2⟩
theorem LnO.below {W W' : World} {base g d g' d' : Nat} {bs : List BV} {ts : List Int} (h : LnO W base g d g' d' bs ts) (k : Below W.heap.size W W') : LnO W' base g d g' d' bs ts := ⟨h.1.below k h.1.lt, h.2.1.below k h.2.1.lt, h.2.2⟩

set_option maxHeartbeats 1600000 in
theorem line_any (base R g d g' d' : Nat) (bs : List BV) (ts : List Int) (w : World) (hn : bs.length ≤ 5) (hm : ts.length ≤ 5) (hr : RwO w base R g d g' d' bs ts) :
    Calls Try.prog 53 #[.pointer (some ⟨R, 0, none⟩)] w (NewLine w bs ts) := by
  have HCB := Lib.hid (fun W (h : RwO W base R g d g' d' bs ts) => cloneB_any g 0 d bs W (by omega) h.2.1.at h.2.1.lt)
  have HCT := Lib.hid (fun W (h : RwO W base R g d g' d' bs ts) => clone_any g' 0 d' ts W (by omega) h.2.2.1.at h.2.2.1.lt)
  have hS1 : Below w.heap.size w (w.alloc (.cells #[.slice none 0 0, .slice none 0 0] 32)).drew ∧ RwO (w.alloc (.cells #[.slice none 0 0, .slice none 0 0] 32)).drew base R g d g' d' bs ts ∧ Blk (w.alloc (.cells #[.slice none 0 0, .slice none 0 0] 32)).drew w.heap.size 32 #[.slice none 0 0, .slice none 0 0] := ⟨(below_new w _).drew, (hr.below (below_new w _).drew), Blk.new _ _ _⟩
  have n0 := World.new_ne w _ hr.cell0
  have S1 := Lib.hid hS1
  have HST : Hid (∀ W W', (Below w.heap.size w W ∧ RwO W base R g d g' d' bs ts ∧ Blk W w.heap.size 32 #[.slice none 0 0, .slice none 0 0]) → Below W.heap.size W W' → (Below w.heap.size w W' ∧ RwO W' base R g d g' d' bs ts ∧ Blk W' w.heap.size 32 #[.slice none 0 0, .slice none 0 0])) := Lib.hid fun W W' h k => ⟨below_to h.1 k h.1.size, h.2.1.below k, h.2.2.below k h.2.2.lt⟩
  have HSZ := Lib.hid (show w.heap.size < (w.alloc (.cells #[.slice none 0 0, .slice none 0 0] 32)).drew.heap.size by simp)
  clear hr hS1
  go_enter Try.func53, Try.ntmps53
  go_wp2_with fail
  have hdr : (w.alloc (.cells #[.slice none 0 0, .slice none 0 0] 32)).drew = (w.alloc (.cells #[.slice none 0 0, .slice none 0 0] 32)).drew := rfl
  generalize w.alloc (.cells #[.slice none 0 0, .slice none 0 0] 32) = W1 at *
  clear hdr
  have r0 : W1.cell? ⟨R, 0, none⟩ = some (.slice (some ⟨g, 0, none⟩) bs.length d) := S1.out.2.1.cell0
  have r1 : W1.cell? ⟨R, 1, none⟩ = some (.slice (some ⟨g', 0, none⟩) ts.length d') := S1.out.2.1.cell1
  go_region_held3 (fun w' => w'.cell? ⟨R, 0, none⟩ = some (.slice (some ⟨g, 0, none⟩) bs.length d) ∧ w'.cell? ⟨R, 1, none⟩ = some (.slice (some ⟨g', 0, none⟩) ts.length d')) (go_keep) (first | (go_at_call 81; go_must (go_fit (HCB.out _ S1.out.2.1); rintro e w2 ⟨h, d2, rfl, ho2, hb2⟩; have S2 := Lib.hid (HST.out _ _ S1.out hb2); have O2 := Lib.hid ho2; have y0 := S2.out.2.1.cell0; have y1 := S2.out.2.1.cell1; clear hb2 ho2)) | (go_at_call 82; go_must (go_fit (HCT.out _ S2.out.2.1); rintro e w3 ⟨h', d3, rfl, ho3, hb3⟩; have S3 := Lib.hid (HST.out _ _ S2.out hb3); have O2b := Lib.hid (OwnB.below O2.out hb3 O2.out.lt); have O3 := Lib.hid ho3; have z0 := S3.out.2.1.cell0; have z1 := S3.out.2.1.cell1; obtain ⟨c0, c1, f0, f1⟩ := blkCells2 S3.out.2.2; have HLE := Lib.hid hb3.size; clear hb3 ho3)))
  go_wp2_with fail
  have F := store2 S3.out.1 (Nat.le_refl _) S3.out.2.2 (.slice (some ⟨h, 0, none⟩) bs.length d2) (.slice (some ⟨h', 0, none⟩) ts.length d3)
  have hsz := HSZ.out
  have h2 := O2.out.le
  have h2l := O2.out.lt
  have h3 := O3.out.le
  have hs2 := S2.out.1.size
  have o2 : OwnB w3 w.heap.size h d2 bs := OwnV.mono O2b.out (by omega)
  have o3 : Own w3 w.heap.size h' d3 ts := OwnV.mono O3.out (by omega)
  exact bodyPost_ret (v := .agg #[.slice (some ⟨h, 0, none⟩) bs.length d2, .slice (some ⟨h', 0, none⟩) ts.length d3]) (by have r0 := F.2.1; have r1 := F.2.2; simp [results, Try.results53, go_sem, r0, r1]) rfl ⟨h, d2, h', d3, rfl, OwnV.far (OwnV.far o2 (by show h ≠ w.heap.size; omega) _) (by show h ≠ w.heap.size; omega) _, OwnV.far (OwnV.far o3 (by show h' ≠ w.heap.size; omega) _) (by show h' ≠ w.heap.size; omega) _, by omega, F.1⟩

/-- What LineStep leaves: nothing, or a new line. -/
def StepO (w : World) (o : Option (List BV × List Int)) (e : Ending) (w' : World) : Prop :=
  match o with
  | none => e = .returned (.tuple #[.agg #[.slice none 0 0, .slice none 0 0], .bool false]) ∧ Below w.heap.size w w'
  | some p => ∃ g d g' d', e = .returned (.tuple #[.agg #[.slice (some ⟨g, 0, none⟩) p.1.length d, .slice (some ⟨g', 0, none⟩) p.2.length d'], .bool true]) ∧ OwnB w' w.heap.size g d p.1 ∧ Own w' w.heap.size g' d' p.2 ∧ g ≠ g' ∧ Below w.heap.size w w'
set_option maxHeartbeats 3200000 in
theorem implStep_any (b c t c' : Nat) (bs : List BV) (ts : List Int) (m : Int) (s : ByteArray) (w : World) (hn : bs.length ≤ 1048576) (hm : ts.length ≤ 1048576) (hs : s.size ≤ 9223372036854775807) (hb : b < w.heap.size) (ht : t < w.heap.size) (ha : AtBl w b 0 bs) (hi : AtInts w t 0 ts) :
    Calls Try.prog 19 #[.agg #[.slice (some ⟨b, 0, none⟩) bs.length c, .slice (some ⟨t, 0, none⟩) ts.length c'], .agg #[.int .i64 m, .string s]] w (StepO w (stepV bs ts m s)) := by
  let W3 := ((w.alloc (.cells #[.slice (some ⟨b, 0, none⟩) bs.length c, .slice (some ⟨t, 0, none⟩) ts.length c'] 32)).alloc (.cells #[.int .i64 m, .string s] 36)).alloc (.cells #[.slice none 0 0, .slice none 0 0] 32)
  have b3 : Below w.heap.size w W3 := below_new' (below_new' (below_new w _) _) _
  have k1 : Blk W3 (w.heap.size + 1) 36 #[.int .i64 m, .string s] := by simpa using (Blk.new (w.alloc _) _ _).alloc _
  have k2 : Blk W3 (w.heap.size + 2) 32 #[.slice none 0 0, .slice none 0 0] := by simpa using Blk.new ((w.alloc _).alloc _) _ _
  have hsz : W3.heap.size = w.heap.size + 3 := by simp [W3]
  have hrw := railwayOf_any b c t c' bs ts W3 hn hm (Nat.lt_of_lt_of_le hb b3.size) (Nat.lt_of_lt_of_le ht b3.size) (ha.below b3 hb) (hi.below b3 ht)
  have B3 := Lib.hid b3
  have K1 := Lib.hid k1
  have K2 := Lib.hid k2
  have HSZ := Lib.hid hsz
  clear b3 k1 k2 hsz ha hi
  by_cases hV : lineB bs ts = true
  · have h5 := lineB_n hV
    rw [hV] at hrw
    have HRW := Lib.hid hrw
    have hmv := fun W base R g d g' d' h => move_any base R g d g' d' bs ts m s W h5.2.1 h5.2.2 hs h
    unfold stepV
    rw [if_pos hV]
    obtain ⟨o, ho⟩ : ∃ o, stepI bs ts m s = o := ⟨_, rfl⟩
    rw [ho] at hmv ⊢
    have HMV := Lib.hid hmv
    cases o
    case none =>
      unfold StepO
      unfold MoveO at HMV
      simp only at HMV ⊢
      clear hV hrw hmv ho
      go_enter Try.func19, Try.ntmps19
      go_wp2_with fail
      refine HRW.out.mono ?_
      rintro e w4 ⟨p, rfl, hb4, hv4⟩
      obtain ⟨R, g, d, g', d', rfl, hr4⟩ := hv4 rfl
      have B4 := Lib.hid (below_to B3.out hb4 B3.out.size)
      have R4 := Lib.hid hr4
      have L1 := Lib.hid (K1.out.below hb4 K1.out.lt)
      have L2 := Lib.hid (K2.out.below hb4 K2.out.lt)
      obtain ⟨x0, x1, _, _⟩ := blkCells2 L1.out
      clear hb4 hv4 hr4
      go_wp2_with fail
      refine (HMV.out _ _ _ _ _ _ _ R4.out).mono ?_
      rintro e w5 ⟨rfl, hb5, hr5⟩
      have B5 := Lib.hid (below_to B4.out hb5 B3.out.size)
      have N2 := Lib.hid (L2.out.below hb5 (by have := HSZ.out; omega))
      obtain ⟨c0, c1, f0, f1⟩ := blkCells2 N2.out
      clear hb5 hr5 x0 x1
      go_wp2_with fail
      have F := store2 B5.out (by omega) N2.out (.slice none 0 0) (.slice none 0 0)
      exact bodyPost_ret (v := .tuple #[.agg #[.slice none 0 0, .slice none 0 0], .bool false]) (by have r0 := F.2.1; have r1 := F.2.2; simp [results, Try.results19, go_sem, r0, r1]) rfl ⟨rfl, F.1⟩
    case some p =>
      obtain ⟨bs', ts'⟩ := p
      have hle : bs'.length = bs.length ∧ ts'.length = ts.length := by
        unfold stepI at ho
        split at ho
        · exact stepU_len ho
        · cases ho
      have hln := fun W base R g d g' d' h => line_any base R g d g' d' bs' ts' W (by omega) (by omega) h
      have HLN := Lib.hid hln
      unfold StepO
      unfold MoveO at HMV
      simp only at HMV ⊢
      clear hV hrw hmv ho hln hle
      go_enter Try.func19, Try.ntmps19
      go_wp2_with fail
      refine HRW.out.mono ?_
      rintro e w4 ⟨p, rfl, hb4, hv4⟩
      obtain ⟨R, g, d, g', d', rfl, hr4⟩ := hv4 rfl
      have B4 := Lib.hid (below_to B3.out hb4 B3.out.size)
      have R4 := Lib.hid hr4
      have L1 := Lib.hid (K1.out.below hb4 K1.out.lt)
      have L2 := Lib.hid (K2.out.below hb4 K2.out.lt)
      obtain ⟨x0, x1, _, _⟩ := blkCells2 L1.out
      clear hb4 hv4 hr4
      go_wp2_with fail
      refine (HMV.out _ _ _ _ _ _ _ R4.out).mono ?_
      rintro e w5 ⟨rfl, hb5, hr5⟩
      have B5 := Lib.hid (below_to B4.out hb5 B3.out.size)
      have N2 := Lib.hid (L2.out.below hb5 (by have := HSZ.out; omega))
      have R5 := Lib.hid hr5
      clear hb5 hr5 x0 x1
      go_wp2_with fail
      refine (HLN.out _ _ _ _ _ _ _ R5.out).mono ?_
      rintro e w6 ⟨h, d6, h', d6', rfl, ho6, ho6', hne, hb6⟩
      have B6 := Lib.hid (below_to B5.out hb6 B5.out.size)
      have M2 := Lib.hid (N2.out.below hb6 N2.out.lt)
      have O6 : Hid (LnO w6 w5.heap.size h d6 h' d6' bs' ts') := Lib.hid ⟨ho6, ho6', hne⟩
      obtain ⟨c0, c1, f0, f1⟩ := blkCells2 M2.out
      clear hb6 ho6 ho6' hne
      go_wp2_with fail
      have F := store2 B6.out (by omega) M2.out (.slice (some ⟨h, 0, none⟩) bs'.length d6) (.slice (some ⟨h', 0, none⟩) ts'.length d6')
      have g1 := O6.out.1.le
      have g2 := O6.out.2.1.le
      have g3 := N2.out.lt
      have G := (O6.out.far (p := ⟨w.heap.size + 1 + 1, 0, none⟩) (by show h ≠ w.heap.size + 1 + 1; omega) (by show h' ≠ w.heap.size + 1 + 1; omega) (.slice (some ⟨h, 0, none⟩) bs'.length d6)).far (p := ⟨w.heap.size + 1 + 1, 1, none⟩) (by show h ≠ w.heap.size + 1 + 1; omega) (by show h' ≠ w.heap.size + 1 + 1; omega) (.slice (some ⟨h', 0, none⟩) ts'.length d6')
      have b5 := B5.out.size
      exact bodyPost_ret (v := .tuple #[.agg #[.slice (some ⟨h, 0, none⟩) bs'.length d6, .slice (some ⟨h', 0, none⟩) ts'.length d6'], .bool true]) (by have r0 := F.2.1; have r1 := F.2.2; simp [results, Try.results19, go_sem, r0, r1]) rfl ⟨h, d6, h', d6', rfl, OwnV.mono G.1 (by omega), OwnV.mono G.2.1 (by omega), G.2.2, F.1⟩
  · have hV' : lineB bs ts = false := by simpa using hV
    rw [hV'] at hrw
    unfold stepV
    rw [if_neg hV]
    unfold StepO
    simp only
    have HRW := Lib.hid hrw
    clear hV hV' hrw
    go_enter Try.func19, Try.ntmps19
    go_wp2_with fail
    refine HRW.out.mono ?_
    rintro e w4 ⟨p, rfl, hb4, _⟩
    have B4 := Lib.hid (below_to B3.out hb4 B3.out.size)
    have L2 := Lib.hid (K2.out.below hb4 K2.out.lt)
    obtain ⟨c0, c1, f0, f1⟩ := blkCells2 L2.out
    clear hb4
    go_wp2_with fail
    have F := store2 B4.out (by omega) L2.out (.slice none 0 0) (.slice none 0 0)
    exact bodyPost_ret (v := .tuple #[.agg #[.slice none 0 0, .slice none 0 0], .bool false]) (by have r0 := F.2.1; have r1 := F.2.2; simp [results, Try.results19, go_sem, r0, r1]) rfl ⟨rfl, F.1⟩
end Go.Proofs.Ytmgakfbchhefcaa
