/-
  Lines: LineRun of the reference. No condition.
-/
import Derived.Test.YtmgakfbchhefcaaLn25
import Derived.Deep.DeepCutAuto
namespace Go.Proofs.Ytmgakfbchhefcaa
open Go.RowKit
set_option linter.unusedVariables false
set_option linter.unusedSimpArgs false

/-- A copy of a line, made behind W. -/
def Cp (W wx : World) (R g d g' d' : Nat) (bs : List BV) (ts : List Int) : Prop :=
  Below W.heap.size W wx ∧ Blk wx R 32 #[.slice (some ⟨g, 0, none⟩) bs.length d, .slice (some ⟨g', 0, none⟩) ts.length d'] ∧ LnO wx W.heap.size g d g' d' bs ts ∧ W.heap.size ≤ R ∧ R ≠ g ∧ R ≠ g'
theorem cp_a {W w7 : World} {C base g d g' d' : Nat} {bs : List BV} {ts : List Int} (B : Below W.heap.size W w7) (kC : Blk w7 C 32 #[.slice none 0 0, .slice none 0 0])
    (O : OwnV w7 base 48 3 g d bs.length (bcells bs)) (O' : OwnV w7 base 3 1 g' d' ts.length (ts.map (Value.int .i64))) (hb : W.heap.size ≤ base) (hC : W.heap.size ≤ C) :
    Cp W ((w7.setCell ⟨C, 0, none⟩ (.slice (some ⟨g, 0, none⟩) bs.length d)).setCell ⟨C, 1, none⟩ (.slice (some ⟨g', 0, none⟩) ts.length d')) C g d g' d' bs ts := by
  have n1 : C ≠ g := blk_own_ne kC O (by decide)
  have n2 : C ≠ g' := blk_own_ne kC O' (by decide)
  have n3 : g ≠ g' := own_own_ne O O' (by decide)
  refine ⟨(B.setCell hC _).setCell hC _, ?_, ⟨?_, ?_, n3⟩, hC, n1, n2⟩
  · have := (kC.set_ 0 (.slice (some ⟨g, 0, none⟩) bs.length d)).set_ 1 (.slice (some ⟨g', 0, none⟩) ts.length d')
    simpa using this
  · exact OwnV.far (OwnV.far (OwnV.mono O (by have := O.le; omega)) (by show g ≠ C; omega) _) (by show g ≠ C; omega) _
  · exact OwnV.far (OwnV.far (OwnV.mono O' (by have := O'.le; omega)) (by show g' ≠ C; omega) _) (by show g' ≠ C; omega) _
theorem cp_b {W w7 : World} {base g d g' d' : Nat} {bs : List BV} {ts : List Int} (B : Below W.heap.size W w7)
    (O : OwnV w7 base 48 3 g d bs.length (bcells bs)) (O' : OwnV w7 base 3 1 g' d' ts.length (ts.map (Value.int .i64))) (hb : W.heap.size ≤ base) :
    Cp W (w7.alloc (.cells #[.slice (some ⟨g, 0, none⟩) bs.length d, .slice (some ⟨g', 0, none⟩) ts.length d'] 32)) w7.heap.size g d g' d' bs ts := by
  have n3 : g ≠ g' := own_own_ne O O' (by decide)
  have m1 := O.lt
  have m2 := O'.lt
  have m3 := B.size
  exact ⟨below_new' B _, Blk.new _ _ _, ⟨(OwnV.mono O (by have := O.le; omega)).alloc _, (OwnV.mono O' (by have := O'.le; omega)).alloc _, n3⟩, m3, by omega, by omega⟩
/-- The argument's line, the result's box, the moves. -/
def Lr (w W : World) (b c t c' : Nat) (bs : List BV) (ts : List Int) (a off : Nat) (ms : List MV) : Prop :=
  Below w.heap.size w W ∧ LnAt W w.heap.size b c t c' bs ts ∧ Blk W (w.heap.size + 1) 32 #[.slice none 0 0, .slice none 0 0] ∧ AtMv W a off ms ∧ a < W.heap.size
theorem Lr.step {w W W' : World} {b c t c' a off : Nat} {bs : List BV} {ts : List Int} {ms : List MV} (h : Lr w W b c t c' bs ts a off ms) (k : Below W.heap.size W W') : Lr w W' b c t c' bs ts a off ms :=
  ⟨below_to h.1 k h.1.size, h.2.1.below k, h.2.2.1.below k h.2.2.1.lt, h.2.2.2.1.below k h.2.2.2.2, Nat.lt_of_lt_of_le h.2.2.2.2 k.size⟩
theorem Lr.far {w W : World} {b c t c' a off : Nat} {bs : List BV} {ts : List Int} {ms : List MV} (h : Lr w W b c t c' bs ts a off ms) (hb : b < w.heap.size) (ht : t < w.heap.size) (ha : a < w.heap.size) {p : Addr} (hp : w.heap.size + 1 < p.block) (v : Value) : Lr w (W.setCell p v) b c t c' bs ts a off ms := by
  have hB : Below (w.heap.size + 2) W (W.setCell p v) := (Below.refl _ _).setCell (by omega) _
  have l1 := h.2.2.1.lt
  exact ⟨h.1.setCell (by omega) _, h.2.1.belowB hB (by omega) (by omega) (by omega), h.2.2.1.below hB (by omega), h.2.2.2.1.below hB (by omega), Nat.lt_of_lt_of_le h.2.2.2.2 hB.size⟩
/-- The same and the line that is turned. -/
def Lq (w W : World) (b c t c' : Nat) (bs : List BV) (ts : List Int) (a off : Nat) (ms : List MV) (R h f h' f' : Nat) (bi : List BV) (ti : List Int) : Prop :=
  Lr w W b c t c' bs ts a off ms ∧ Blk W R 32 #[.slice (some ⟨h, 0, none⟩) bi.length f, .slice (some ⟨h', 0, none⟩) ti.length f'] ∧ LnO W (w.heap.size + 2) h f h' f' bi ti ∧ w.heap.size + 1 < R ∧ R ≠ h ∧ R ≠ h'
section
variable {w W W' : World} {b c t c' a off R h f h' f' : Nat} {bs bi : List BV} {ts ti : List Int} {ms : List MV}
theorem Lq.step (q : Lq w W b c t c' bs ts a off ms R h f h' f' bi ti) (k : Below W.heap.size W W') : Lq w W' b c t c' bs ts a off ms R h f h' f' bi ti := ⟨q.1.step k, q.2.1.below k q.2.1.lt, q.2.2.1.below k, q.2.2.2⟩
theorem Lq.drew (q : Lq w W b c t c' bs ts a off ms R h f h' f' bi ti) : Lq w W.drew b c t c' bs ts a off ms R h f h' f' bi ti := q.step (Below.refl _ _).drew
theorem Lq.put {B u r u' r' : Nat} {bn : List BV} {tn : List Int} (q : Lq w W b c t c' bs ts a off ms R h f h' f' bi ti) (hb : b < w.heap.size) (ht : t < w.heap.size) (ha : a < w.heap.size) (o : LnO W B u r u' r' bn tn) (hB : R < B) :
    Lq w ((W.setCell ⟨R, 0, none⟩ (.slice (some ⟨u, 0, none⟩) bn.length r)).setCell ⟨R, 1, none⟩ (.slice (some ⟨u', 0, none⟩) tn.length r')) b c t c' bs ts a off ms R u r u' r' bn tn := by
  obtain ⟨h1, h2, _, h3, _, _⟩ := q
  have l5 := o.1.le
  have l6 := o.2.1.le
  refine ⟨(h1.far hb ht ha h3 _).far hb ht ha h3 _, ?_, ⟨OwnV.far (OwnV.far (OwnV.mono o.1 (by omega)) (by show u ≠ R; omega) _) (by show u ≠ R; omega) _, OwnV.far (OwnV.far (OwnV.mono o.2.1 (by omega)) (by show u' ≠ R; omega) _) (by show u' ≠ R; omega) _, o.2.2⟩, h3, by omega, by omega⟩
  have := (h2.set_ 0 (.slice (some ⟨u, 0, none⟩) bn.length r)).set_ 1 (.slice (some ⟨u', 0, none⟩) tn.length r')
  simpa using this
theorem Lq.fin (q : Lq w W b c t c' bs ts a off ms R h f h' f' bi ti) (u v : Value) : LnO ((W.setCell ⟨w.heap.size + 1, 0, none⟩ u).setCell ⟨w.heap.size + 1, 1, none⟩ v) w.heap.size h f h' f' bi ti := by
  obtain ⟨_, _, o, _⟩ := q
  have l5 := o.1.le
  have l6 := o.2.1.le
  exact ⟨OwnV.far (OwnV.far (OwnV.mono o.1 (by omega)) (by show h ≠ w.heap.size + 1; omega) _) (by show h ≠ w.heap.size + 1; omega) _, OwnV.far (OwnV.far (OwnV.mono o.2.1 (by omega)) (by show h' ≠ w.heap.size + 1; omega) _) (by show h' ≠ w.heap.size + 1; omega) _, o.2.2⟩
end
set_option maxHeartbeats 6400000 in
theorem specLRun_any (b c t c' : Nat) (bs : List BV) (ts : List Int) (a off cm : Nat) (ms : List MV) (w : World) (hn : bs.length ≤ 1048576) (hm : ts.length ≤ 1048576) (hk : ms.length ≤ 1048576) (hs : ShortL ms) (hb : b < w.heap.size) (ht : t < w.heap.size) (hx : a < w.heap.size) (ha : AtBl w b 0 bs) (hi : AtInts w t 0 ts) (hms : AtMv w a off ms) :
    Calls Try.prog 25 #[.agg #[.slice (some ⟨b, 0, none⟩) bs.length c, .slice (some ⟨t, 0, none⟩) ts.length c'], .slice (some ⟨a, off, none⟩) ms.length cm] w (StepO w (runL bs ts ms)) := by
  have S2 : Hid (Lr w ((w.alloc (.cells #[.slice (some ⟨b, 0, none⟩) bs.length c, .slice (some ⟨t, 0, none⟩) ts.length c'] 32)).alloc (.cells #[.slice none 0 0, .slice none 0 0] 32)) b c t c' bs ts a off ms) := Lib.hid (by
    have b2 := below_new' (below_new w (.cells #[.slice (some ⟨b, 0, none⟩) bs.length c, .slice (some ⟨t, 0, none⟩) ts.length c'] 32)) (.cells #[.slice none 0 0, .slice none 0 0] 32)
    exact ⟨b2, (LnAt.new hb ht ha hi).below (below_new _ _), by simpa using Blk.new (w.alloc (.cells #[.slice (some ⟨b, 0, none⟩) bs.length c, .slice (some ⟨t, 0, none⟩) ts.length c'] 32)) 32 #[.slice none 0 0, .slice none 0 0], hms.below b2 hx, Nat.lt_of_lt_of_le hx b2.size⟩)
  have hvl := fun W (h : Lr w W b c t c' bs ts a off ms) => specValid_any b c t c' bs ts W hn hm h.2.1.2.2.2.1 h.2.1.2.2.2.2 h.2.1.2.1 h.2.1.2.2.1
  have HSH := Lib.hid hs
  have BL := Lib.hid hb
  have TL := Lib.hid ht
  have XL := Lib.hid hx
  clear ha hi hb ht hx hms hs
  by_cases hV : lineB bs ts = true
  · obtain ⟨h1, _, h3, _⟩ := lineB_iff.1 hV
    rw [hV] at hvl
    have HVL := Lib.hid hvl
    unfold runL
    rw [if_pos hV]
    obtain ⟨O, hO⟩ : ∃ O, foldI bs ts ms = O := ⟨_, rfl⟩
    rw [hO]
    have HO := Lib.hid hO
    clear hV hvl hO
    go_enter Try.func25, Try.ntmps25
    go_wp2_with fail
    generalize (w.alloc (.cells #[.slice (some ⟨b, 0, none⟩) bs.length c, .slice (some ⟨t, 0, none⟩) ts.length c'] 32)).alloc (.cells #[.slice none 0 0, .slice none 0 0] 32) = W2 at *
    have c0 := S2.out.2.1.cell0
    have c1 := S2.out.2.1.cell1
    go_wp2_with fail
    refine (HVL.out _ S2.out).mono ?_
    rintro e wc ⟨rfl, hb4⟩
    have S4 := Lib.hid (S2.out.step hb4)
    have M4 := Lib.hid S4.out.2.1
    clear hb4 S2 HVL c0 c1
    have c0 := M4.out.cell0
    have c1 := M4.out.cell1
    have HS : Hid (∀ X, Below wc.heap.size wc X → X.cell? ⟨w.heap.size, 0, none⟩ = some (.slice (some ⟨b, 0, none⟩) bs.length c) ∧ X.cell? ⟨w.heap.size, 1, none⟩ = some (.slice (some ⟨t, 0, none⟩) ts.length c')) := Lib.hid fun X h => ⟨(M4.out.below h).cell0, (M4.out.below h).cell1⟩
    go_upto_region 3 with fail
    go_cut [6] (fun a6 wx => ∃ R g d g' d' : Nat, a6 = .pointer (some ⟨R, 0, none⟩) ∧ Cp wc wx R g d g' d' bs ts)
    case first =>
      go_region_held_law (fun w' => w'.cell? ⟨w.heap.size, 0, none⟩ = some (.slice (some ⟨b, 0, none⟩) bs.length c) ∧ w'.cell? ⟨w.heap.size, 1, none⟩ = some (.slice (some ⟨t, 0, none⟩) ts.length c')) (first | exact HS.out _ (by simp (maxDischargeDepth := 12) [bsA, bsD, bsR]) | exact HS.out _ (by simp (maxDischargeDepth := 12) [bsA, bsD, b6.out]) | exact HS.out _ (by simp (maxDischargeDepth := 12) [bsA, bsD, b7.out]) | go_keep) (first | (refine step_app0 slBl rfl (.tmp 14) (.tmp 16) rfl _ wc.heap.size _ rfl (by simp (maxDischargeDepth := 12) [ne2n, ne2m, nbS, nbO, nbD]) (by omega) (bcells bs) rfl (bcells_length bs) (news_bl (M4.out.below (by simp (maxDischargeDepth := 12) [bsA, bsD, bsR])).2.1) (bcells_one bs) (by omega) (by decide) ?_; intro g6 d6 w6 ho6 hg6 hat6; have b6 := Lib.hid (bel_grown (w0 := wc) (by simp (maxDischargeDepth := 12) [bsA, bsD, bsR]) hg6 (by omega)); have M6 := Lib.hid (M4.out.below b6.out); have y0 := M6.out.cell0; have y1 := M6.out.cell1; have hk6 := Lib.hid (fun (P : Nat) (T : TypeId) (cs : Array Value) => @blk_grown _ _ _ P T cs hg6); have hs6 := Lib.hid hg6.size; have O6 := Lib.hid ho6; have A6 := Lib.hid hat6; clear ho6 hg6 hat6) | (refine step_app0 slInt rfl (.tmp 18) (.tmp 20) rfl _ wc.heap.size _ rfl (by simp (maxDischargeDepth := 12) [ne2n, ne2m, nbS, nbO, nbD, hk6.out]) (by have h3 := hs6.out; simp -failIfUnchanged at h3; omega) (ts.map (Value.int .i64)) rfl (by simp) (news_in (M6.out.below (by simp (maxDischargeDepth := 12) [bsA, bsD, bsR])).2.2.1) (ints_oneCell _ _) (by omega) (by decide) ?_; intro g7 d7 w7 ho7 hg7 hat7; have b7 := Lib.hid (bel_grown (w0 := wc) (by simp (maxDischargeDepth := 12) [bsA, bsD, b6.out]) hg7 (by have h3 := hs6.out; simp -failIfUnchanged at h3; omega)); have M7 := Lib.hid (M4.out.below b7.out); have y2 := M7.out.cell0; have y3 := M7.out.cell1; have hk7 := Lib.hid (fun (P : Nat) (T : TypeId) (cs : Array Value) => @blk_grown _ _ _ P T cs hg7); have O6b := Lib.hid (own_grown2 O6.out (by simp (maxDischargeDepth := 12) [bsA, bsD, bsR]) hg7 (by have h1 := A6.out; have h2 := OwnV.lt O6.out; have h3 := hs6.out; simp -failIfUnchanged at h1 h3; omega)); have O7 := Lib.hid ho7; clear ho7 hg7 hat7; (first | (have kC := Lib.hid (hk7.out wc.heap.size 32 #[.slice none 0 0, .slice none 0 0] (by simp (maxDischargeDepth := 12) [ne2n, ne2m, nbS, nbO, nbD, hk6.out]) (by have h3 := hs6.out; simp -failIfUnchanged at h3; omega)); have hC := Lib.hid (show wc.heap.size ≤ wc.heap.size by have h3 := hs6.out; simp -failIfUnchanged at h3; omega); have q0 : wc.heap.size ≠ w.heap.size := (by have h3 := hs6.out; have h4 := M4.out.1.lt; simp -failIfUnchanged at h3; omega); obtain ⟨v0, v1, f0, f1⟩ := blkCells2 kC.out) | (have kC := Lib.hid (hk7.out (wc.heap.size + 1) 32 #[.slice none 0 0, .slice none 0 0] (by simp (maxDischargeDepth := 12) [ne2n, ne2m, nbS, nbO, nbD, hk6.out]) (by have h3 := hs6.out; simp -failIfUnchanged at h3; omega)); have hC := Lib.hid (show wc.heap.size ≤ (wc.heap.size + 1) by have h3 := hs6.out; simp -failIfUnchanged at h3; omega); have q0 : (wc.heap.size + 1) ≠ w.heap.size := (by have h3 := hs6.out; have h4 := M4.out.1.lt; simp -failIfUnchanged at h3; omega); obtain ⟨v0, v1, f0, f1⟩ := blkCells2 kC.out) | (have kC := Lib.hid (hk7.out (wc.heap.size + 1 + 1) 32 #[.slice none 0 0, .slice none 0 0] (by simp (maxDischargeDepth := 12) [ne2n, ne2m, nbS, nbO, nbD, hk6.out]) (by have h3 := hs6.out; simp -failIfUnchanged at h3; omega)); have hC := Lib.hid (show wc.heap.size ≤ (wc.heap.size + 1 + 1) by have h3 := hs6.out; simp -failIfUnchanged at h3; omega); have q0 : (wc.heap.size + 1 + 1) ≠ w.heap.size := (by have h3 := hs6.out; have h4 := M4.out.1.lt; simp -failIfUnchanged at h3; omega); obtain ⟨v0, v1, f0, f1⟩ := blkCells2 kC.out) | (have kC := Lib.hid (hk7.out w6.heap.size 32 #[.slice none 0 0, .slice none 0 0] (by simp (maxDischargeDepth := 12) [ne2n, ne2m, nbS, nbO, nbD, hk6.out]) (by have h3 := hs6.out; simp -failIfUnchanged at h3; omega)); have hC := Lib.hid (show wc.heap.size ≤ w6.heap.size by have h3 := hs6.out; simp -failIfUnchanged at h3; omega); have q0 : w6.heap.size ≠ w.heap.size := (by have h3 := hs6.out; have h4 := M4.out.1.lt; simp -failIfUnchanged at h3; omega); obtain ⟨v0, v1, f0, f1⟩ := blkCells2 kC.out) | (have kC := Lib.hid (hk7.out (w6.heap.size + 1) 32 #[.slice none 0 0, .slice none 0 0] (by simp (maxDischargeDepth := 12) [ne2n, ne2m, nbS, nbO, nbD, hk6.out]) (by have h3 := hs6.out; simp -failIfUnchanged at h3; omega)); have hC := Lib.hid (show wc.heap.size ≤ (w6.heap.size + 1) by have h3 := hs6.out; simp -failIfUnchanged at h3; omega); have q0 : (w6.heap.size + 1) ≠ w.heap.size := (by have h3 := hs6.out; have h4 := M4.out.1.lt; simp -failIfUnchanged at h3; omega); obtain ⟨v0, v1, f0, f1⟩ := blkCells2 kC.out) | skip)))
      all_goals
        go_wp2_with fail
        go_meet
        first
          | exact ⟨_, _, _, _, _, rfl, cp_a b7.out kC.out O6b.out O7.out (Nat.le_refl _) hC.out⟩
          | exact ⟨_, _, _, _, _, rfl, cp_b b7.out O6b.out O7.out (Nat.le_refl _)⟩
    obtain ⟨R, g, d, g', d', rfl, hcp⟩ := hcut
    have Q5 : Hid (Lq w wc b c t c' bs ts a off ms R g d g' d' bs ts) := Lib.hid (by
      have l1 := S4.out.2.2.1.lt
      obtain ⟨k1, k2, ⟨k3, k4, k5⟩, k6, k7, k8⟩ := hcp
      have l2 := k3.le
      have l3 := k4.le
      exact ⟨S4.out.step k1, k2, ⟨OwnV.mono k3 (by omega), OwnV.mono k4 (by omega), k5⟩, by omega, k7, k8⟩)
    clear hcp S4 M4 HS c0 c1
    go_wp2_with fail
    go_loopw [7] (fun q wr => ∃ (i : Nat) (bi : List BV) (ti : List Int) (h f h' f' : Nat), i ≤ ms.length ∧ q = .int .i64 i ∧ bi.length = bs.length ∧ ti.length = ts.length ∧ foldI bi ti (ms.drop i) = O ∧ Lq w wr b c t c' bs ts a off ms R h f h' f' bi ti) (fun q _ => ms.length - (intOf q).toNat)
    case atStart => exact ⟨0, bs, ts, g, d, g', d', by omega, rfl, rfl, rfl, by rw [List.drop_zero]; exact HO.out, Q5.out⟩
    case round =>
      clear Q5 HO
      obtain ⟨i, bi, ti, h, f, h', f', hi, rfl, hl1, hl2, hfo, hq⟩ := hrel
      have HFO := Lib.hid hfo
      have Q5 := Lib.hid hq
      have h51 : bi.length ≤ 5 := by omega
      have h52 : ti.length ≤ 5 := by omega
      have HLL := Lib.hid (And.intro hl1 hl2)
      clear hl1 hl2 hfo hq
      by_cases hlt : i < ms.length
      · obtain ⟨x0, x1⟩ := Q5.out.1.2.2.2.1 i hlt
        have hdr := foldI_drop (bs := bi) (ts := ti) (bs' := []) (ts' := []) hlt
        rw [HFO.out] at hdr
        have hsz := HSH.out i hlt
        have HAT : Hid (∀ W, Lq w W b c t c' bs ts a off ms R h f h' f' bi ti → W.cell? ⟨a, off + i * 2, none⟩ = some (.int .i64 (ms.getD i Z2m).1) ∧ W.cell? ⟨a, off + i * 2 + 1, none⟩ = some (.string (ms.getD i Z2m).2)) := Lib.hid fun W q => q.1.2.2.2.1 i hlt
        generalize ms.getD i Z2m = mv at *
        obtain ⟨k, s⟩ := mv
        simp only at hdr hsz x0 x1 HAT
        have hl4 := fun W (q : Lq w W b c t c' bs ts a off ms R h f h' f' bi ti) => l4Step_any h f h' f' bi ti k s W h51 h52 (by omega) q.2.2.1.1.lt q.2.2.1.2.1.lt q.2.2.1.1.at q.2.2.1.2.1.at
        obtain ⟨o, ho⟩ : ∃ o, stepI bi ti k s = o := ⟨_, rfl⟩
        rw [ho] at hl4 hdr
        have i1 : (i : Int) < (ms.length : Int) := by omega
        have HDR := Lib.hid hdr
        obtain ⟨c0, c1, _, _⟩ := blkCells2 Q5.out.2.1
        have n0 := World.new_ne wr _ c0
        have n1 := World.new_ne wr _ c1
        have n2 := World.new_ne wr _ x0
        have n3 := World.new_ne wr _ x1
        have HRS : Hid (R < wr.heap.size) := Lib.hid Q5.out.2.1.lt
        cases o with
        | none =>
          unfold StepO at hl4
          simp only at hl4
          have HL4 := Lib.hid hl4
          clear hl4 ho hdr hsz hlt
          go_upto_region 7 with fail
          go_region_held3 (fun w' => w'.cell? ⟨R, 0, none⟩ = some (.slice (some ⟨h, 0, none⟩) bi.length f) ∧ w'.cell? ⟨R, 1, none⟩ = some (.slice (some ⟨h', 0, none⟩) ti.length f') ∧ w'.cell? ⟨a, off + i * 2, none⟩ = some (.int .i64 k) ∧ w'.cell? ⟨a, off + i * 2 + 1, none⟩ = some (.string s)) (go_keep) ((go_at_call 48; go_must (go_fit (HL4.out _ (by first | exact Q5.out.drew | exact (Q5.out.step (below_new _ _)).drew)); rintro e w8 ⟨rfl, hb8⟩; (first | (have B8 : Hid (Below wr.heap.size wr w8) := Lib.hid ((Below.refl _ _).drew.trans hb8); have Q8 := Lib.hid (Q5.out.step B8.out); obtain ⟨y0, y1, _, _⟩ := blkCells2 Q8.out.2.1; obtain ⟨y2, y3⟩ := HAT.out _ Q8.out; clear hb8) | (have B8 : Hid (Below wr.heap.size wr w8) := Lib.hid (below_to (below_new wr _).drew hb8 (by simp)); have Q8 := Lib.hid (Q5.out.step B8.out); have KB := Lib.hid ((Blk.new wr _ _).drew.below hb8 (by simp)); obtain ⟨e0, e1, e2, e3⟩ := blkCells2 KB.out; obtain ⟨y0, y1, _, _⟩ := blkCells2 Q8.out.2.1; obtain ⟨y2, y3⟩ := HAT.out _ Q8.out; clear hb8)))))
          all_goals
            go_upto_region 8 with fail
            first
              | (have KB9 := KB
                 clear KB9
                 have Q9 : Hid (Lq w ((w8.setCell ⟨wr.heap.size, 0, none⟩ (.slice none 0 0)).setCell ⟨wr.heap.size, 1, none⟩ (.slice none 0 0)) b c t c' bs ts a off ms R h f h' f' bi ti) := Lib.hid (Q5.out.step ((B8.out.setCell (Nat.le_refl _) _).setCell (Nat.le_refl _) _))
                 clear KB Q8 B8 e0 e1 e2 e3 y0 y1 y2 y3 c0 c1 x0 x1 n0 n1 n2 n3
                 generalize (w8.setCell ⟨wr.heap.size, 0, none⟩ (.slice none 0 0)).setCell ⟨wr.heap.size, 1, none⟩ (.slice none 0 0) = W9 at *)
              | (have Q9 := Lib.hid (Q8.out.step (below_new w8 (.cells #[.slice none 0 0, .slice none 0 0] 32)))
                 clear Q8 B8 y0 y1 y2 y3 c0 c1 x0 x1 n0 n1 n2 n3
                 generalize w8.alloc (.cells #[.slice none 0 0, .slice none 0 0] 32) = W9 at *)
            obtain ⟨z0, z1, f0, f1⟩ := blkCells2 Q9.out.1.2.2.1
            go_wp2_with fail
            have F := store2 Q9.out.1.1 (by omega) Q9.out.1.2.2.1 (.slice none 0 0) (.slice none 0 0)
            exact bodyPost_ret (v := .tuple #[.agg #[.slice none 0 0, .slice none 0 0], .bool false]) (by have r0 := F.2.1; have r1 := F.2.2; simp [results, Try.results25, go_sem, r0, r1]) rfl (by rw [HDR.out]; exact ⟨rfl, F.1⟩)
        | some p =>
          obtain ⟨bn, tn⟩ := p
          have hln := stepI_len ho
          unfold StepO at hl4
          simp only at hl4 hdr
          have HL4 := Lib.hid hl4
          have HLN := Lib.hid hln
          clear hl4 ho hdr hsz hlt hln
          go_upto_region 7 with fail
          go_region_held3 (fun w' => w'.cell? ⟨R, 0, none⟩ = some (.slice (some ⟨h, 0, none⟩) bi.length f) ∧ w'.cell? ⟨R, 1, none⟩ = some (.slice (some ⟨h', 0, none⟩) ti.length f') ∧ w'.cell? ⟨a, off + i * 2, none⟩ = some (.int .i64 k) ∧ w'.cell? ⟨a, off + i * 2 + 1, none⟩ = some (.string s)) (go_keep) ((go_at_call 48; go_must (go_fit (HL4.out _ (by first | exact Q5.out.drew | exact (Q5.out.step (below_new _ _)).drew)); rintro e w8 ⟨u, r, u', r', rfl, ho, ho', hne, hb8⟩; have O8 : Hid (LnO w8 wr.heap.size u r u' r' bn tn) := Lib.hid ⟨OwnV.mono ho (by have h1 := ho.le; simp -failIfUnchanged at h1; omega), OwnV.mono ho' (by have h1 := ho'.le; simp -failIfUnchanged at h1; omega), hne⟩; (first | (have B8 : Hid (Below wr.heap.size wr w8) := Lib.hid ((Below.refl _ _).drew.trans hb8); have Q8 := Lib.hid (Q5.out.step B8.out); obtain ⟨y0, y1, _, _⟩ := blkCells2 Q8.out.2.1; obtain ⟨y2, y3⟩ := HAT.out _ Q8.out; clear hb8 ho ho' hne) | (have B8 : Hid (Below wr.heap.size wr w8) := Lib.hid (below_to (below_new wr _).drew hb8 (by simp)); have Q8 := Lib.hid (Q5.out.step B8.out); have KB := Lib.hid ((Blk.new wr _ _).drew.below hb8 (by simp)); obtain ⟨e0, e1, e2, e3⟩ := blkCells2 KB.out; have NU : Hid (u ≠ wr.heap.size ∧ u' ≠ wr.heap.size) := Lib.hid (by have h1 := ho.le; have h2 := ho'.le; simp -failIfUnchanged at h1 h2; omega); obtain ⟨y0, y1, _, _⟩ := blkCells2 Q8.out.2.1; obtain ⟨y2, y3⟩ := HAT.out _ Q8.out; clear hb8 ho ho' hne)))))
          all_goals
            go_upto_region 8 with fail
            first
              | (have E9 : Hid (Below wr.heap.size wr ((w8.setCell ⟨wr.heap.size, 0, none⟩ (.slice (some ⟨u, 0, none⟩) bn.length r)).setCell ⟨wr.heap.size, 1, none⟩ (.slice (some ⟨u', 0, none⟩) tn.length r')) ∧ LnO ((w8.setCell ⟨wr.heap.size, 0, none⟩ (.slice (some ⟨u, 0, none⟩) bn.length r)).setCell ⟨wr.heap.size, 1, none⟩ (.slice (some ⟨u', 0, none⟩) tn.length r')) wr.heap.size u r u' r' bn tn ∧ Blk ((w8.setCell ⟨wr.heap.size, 0, none⟩ (.slice (some ⟨u, 0, none⟩) bn.length r)).setCell ⟨wr.heap.size, 1, none⟩ (.slice (some ⟨u', 0, none⟩) tn.length r')) wr.heap.size 32 #[(.slice (some ⟨u, 0, none⟩) bn.length r), (.slice (some ⟨u', 0, none⟩) tn.length r')]) := Lib.hid ⟨(B8.out.setCell (Nat.le_refl _) _).setCell (Nat.le_refl _) _, (O8.out.far (p := ⟨wr.heap.size, 0, none⟩) NU.out.1 NU.out.2 _).far (p := ⟨wr.heap.size, 1, none⟩) NU.out.1 NU.out.2 _, by simpa using (KB.out.set_ 0 (.slice (some ⟨u, 0, none⟩) bn.length r)).set_ 1 (.slice (some ⟨u', 0, none⟩) tn.length r')⟩
                 clear KB Q8 B8 O8 NU e0 e1 e2 e3 y0 y1 y2 y3 c0 c1 x0 x1 n0 n1 n2 n3
                 generalize (w8.setCell ⟨wr.heap.size, 0, none⟩ (.slice (some ⟨u, 0, none⟩) bn.length r)).setCell ⟨wr.heap.size, 1, none⟩ (.slice (some ⟨u', 0, none⟩) tn.length r') = W9 at *
                 have Q9 := Lib.hid (Q5.out.step E9.out.1)
                 obtain ⟨b0, b1, _, _⟩ := blkCells2 E9.out.2.2
                 obtain ⟨r0, r1, r2, r3⟩ := blkCells2 Q9.out.2.1
                 have N9 := Lib.hid (Q9.out.put BL.out TL.out XL.out E9.out.2.1 HRS.out)
                 go_wp2_with fail
                 go_roundw
                 case rel => exact ⟨i + 1, bn, tn, u, r, u', r', by omega, by go_num, HLN.out.1.trans HLL.out.1, HLN.out.2.trans HLL.out.2, HDR.out.symm, N9.out⟩
                 case measure => simp [intOf]; omega)
              | (have E9 : Hid (Below wr.heap.size wr (w8.alloc (.cells #[.slice (some ⟨u, 0, none⟩) bn.length r, .slice (some ⟨u', 0, none⟩) tn.length r'] 32)) ∧ LnO (w8.alloc (.cells #[.slice (some ⟨u, 0, none⟩) bn.length r, .slice (some ⟨u', 0, none⟩) tn.length r'] 32)) wr.heap.size u r u' r' bn tn ∧ Blk (w8.alloc (.cells #[.slice (some ⟨u, 0, none⟩) bn.length r, .slice (some ⟨u', 0, none⟩) tn.length r'] 32)) w8.heap.size 32 #[(.slice (some ⟨u, 0, none⟩) bn.length r), (.slice (some ⟨u', 0, none⟩) tn.length r')]) := Lib.hid ⟨below_new' B8.out _, O8.out.below (below_new _ _), Blk.new _ _ _⟩
                 clear Q8 B8 O8 y0 y1 y2 y3 c0 c1 x0 x1 n0 n1 n2 n3
                 generalize w8.alloc (.cells #[.slice (some ⟨u, 0, none⟩) bn.length r, .slice (some ⟨u', 0, none⟩) tn.length r'] 32) = W9 at *
                 have Q9 := Lib.hid (Q5.out.step E9.out.1)
                 obtain ⟨b0, b1, _, _⟩ := blkCells2 E9.out.2.2
                 obtain ⟨r0, r1, r2, r3⟩ := blkCells2 Q9.out.2.1
                 have N9 := Lib.hid (Q9.out.put BL.out TL.out XL.out E9.out.2.1 HRS.out)
                 go_wp2_with fail
                 go_roundw
                 case rel => exact ⟨i + 1, bn, tn, u, r, u', r', by omega, by go_num, HLN.out.1.trans HLL.out.1, HLN.out.2.trans HLL.out.2, HDR.out.symm, N9.out⟩
                 case measure => simp [intOf]; omega)
      · obtain rfl : i = ms.length := by omega
        have hfin := HFO.out
        rw [List.drop_length] at hfin
        obtain rfl : O = some (bi, ti) := hfin.symm
        clear hfin hlt HFO
        obtain ⟨c0, c1, _, _⟩ := blkCells2 Q5.out.2.1
        obtain ⟨z0, z1, f0, f1⟩ := blkCells2 Q5.out.1.2.2.1
        go_wp2_with fail
        have F := store2 Q5.out.1.1 (by omega) Q5.out.1.2.2.1 (.slice (some ⟨h, 0, none⟩) bi.length f) (.slice (some ⟨h', 0, none⟩) ti.length f')
        have G := Q5.out.fin (.slice (some ⟨h, 0, none⟩) bi.length f) (.slice (some ⟨h', 0, none⟩) ti.length f')
        exact bodyPost_ret (v := .tuple #[.agg #[.slice (some ⟨h, 0, none⟩) bi.length f, .slice (some ⟨h', 0, none⟩) ti.length f'], .bool true]) (by have r0 := F.2.1; have r1 := F.2.2; simp [results, Try.results25, go_sem, r0, r1]) rfl ⟨h, f, h', f', rfl, G.1, G.2.1, G.2.2, F.1⟩
  · have hV' : lineB bs ts = false := by simpa using hV
    rw [hV'] at hvl
    have HVL := Lib.hid hvl
    unfold runL
    rw [if_neg hV]
    unfold StepO
    simp only
    clear hV hV' hvl
    go_enter Try.func25, Try.ntmps25
    go_wp2_with fail
    generalize (w.alloc (.cells #[.slice (some ⟨b, 0, none⟩) bs.length c, .slice (some ⟨t, 0, none⟩) ts.length c'] 32)).alloc (.cells #[.slice none 0 0, .slice none 0 0] 32) = W2 at *
    have c0 := S2.out.2.1.cell0
    have c1 := S2.out.2.1.cell1
    go_wp2_with fail
    refine (HVL.out _ S2.out).mono ?_
    rintro e w4 ⟨rfl, hb4⟩
    have S4 := Lib.hid (S2.out.step hb4)
    clear hb4 S2 HVL c0 c1
    obtain ⟨z0, z1, f0, f1⟩ := blkCells2 S4.out.2.2.1
    go_wp2_with fail
    have F := store2 S4.out.1 (by omega) S4.out.2.2.1 (.slice none 0 0) (.slice none 0 0)
    exact bodyPost_ret (v := .tuple #[.agg #[.slice none 0 0, .slice none 0 0], .bool false]) (by have r0 := F.2.1; have r1 := F.2.2; simp [results, Try.results25, go_sem, r0, r1]) rfl ⟨rfl, F.1⟩
end Go.Proofs.Ytmgakfbchhefcaa
