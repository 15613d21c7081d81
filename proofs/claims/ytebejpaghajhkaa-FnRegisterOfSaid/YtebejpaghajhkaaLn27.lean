/-
  Lines: drawn moves (l92Moves). No condition.
-/
import Derived.Test.YtebejpaghajhkaaLn25
import Derived.Test.YtebejpaghajhkaaGb
namespace Go.Proofs.Ytebejpaghajhkaa
open Go.RowKit
set_option linter.unusedVariables false
set_option linter.unusedSimpArgs false

theorem stepV_len {bs bs' : List BV} {ts ts' : List Int} {m : Int} {s : ByteArray} (h : stepV bs ts m s = some (bs', ts')) : bs'.length = bs.length ∧ ts'.length = ts.length := by
  unfold stepV stepI at h
  repeat' split at h
  all_goals first | (cases h; done) | exact stepU_len h
theorem rdr_ne {W : World} {base R q base' e size g c n : Nat} {xs : List Value} (h : Rdr W base R q) (k : OwnV W base' e size g c n xs) (hT : 109 ≠ e) : R ≠ g := by
  obtain ⟨A, m, d, _, _, hk, _⟩ := h
  exact blk_own_ne hk k hT
/-- What drawing moves leaves. -/
def SomeMvs (w : World) (base R p : Nat) (e : Ending) (w' : World) : Prop := ∃ (ms : List MV) (g c q : Nat), e = .returned (.slice (some ⟨g, 0, none⟩) ms.length c) ∧ OwnMv w' w.heap.size g c ms.length ms ∧ ShortL ms ∧ ms.length ≤ 12 ∧ q ≤ p + 40 ∧ Rdr w' base R q ∧ w.grownBy w' (some R)
theorem ShortL.snoc {ms : List MV} {x : MV} (h : ShortL ms) (hx : x.2.size ≤ 8) : ShortL (ms ++ [x]) := by
  intro k hk
  simp only [List.length_append, List.length_cons, List.length_nil] at hk
  by_cases e : k < ms.length
  · have := h k e
    rw [List.getD_eq_getElem?_getD, List.getElem?_append_left e]
    rwa [List.getD_eq_getElem?_getD] at this
  · have : k = ms.length := by omega
    subst this
    have e2 : (ms ++ [x]).getD ms.length Z2m = x := by simp [List.getD]
    rw [e2]
    exact hx
/-- The reader, the line, the moves so far. -/
def Lm (w W : World) (base R q h f h' f' : Nat) (bi : List BV) (ti : List Int) (g c : Nat) (ms : List MV) : Prop :=
  w.grownBy W (some R) ∧ Rdr W base R q ∧ Blk W w.heap.size 68 #[.slice (some ⟨h, 0, none⟩) bi.length f, .slice (some ⟨h', 0, none⟩) ti.length f'] ∧ LnO W 0 h f h' f' bi ti ∧ OwnMv W w.heap.size g c ms.length ms ∧ R < w.heap.size
section
variable {w W W' : World} {base R q h f h' f' : Nat} {bi : List BV} {ti : List Int} {g c : Nat} {ms : List MV}
theorem Lm.step (k : Lm w W base R q h f h' f' bi ti g c ms) (b : Below W.heap.size W W') : Lm w W' base R q h f h' f' bi ti g c ms := ⟨gbB k.1 b, rdB k.2.1 b, k.2.2.1.below b k.2.2.1.lt, k.2.2.2.1.below b, OwnV.below k.2.2.2.2.1 b (OwnV.lt k.2.2.2.2.1), k.2.2.2.2.2⟩
theorem Lm.pick (k : Lm w W base R q h f h' f' bi ti g c ms) (b : W.grownBy W' (some R)) (hr : Rdr W' base R (q + 1)) : Lm w W' base R (q + 1) h f h' f' bi ti g c ms := by
  obtain ⟨h1, h2, h3, ⟨h4, h5, h6⟩, h7, h8⟩ := k
  have n1 := rdr_ne h2 h4 (by decide)
  have n2 := rdr_ne h2 h5 (by decide)
  have n3 := OwnV.le h7
  exact ⟨grownBy_trans h1 b, hr, blkG b h3 (by omega), ⟨OwnV.grown h4 b (by intro e; injection e; omega), OwnV.grown h5 b (by intro e; injection e; omega), h6⟩, OwnV.grown h7 b (by intro e; injection e; omega), h8⟩
theorem Lm.app {g' c' : Nat} {x : MV} (k : Lm w W base R q h f h' f' bi ti g c ms) (b : W.grownBy W' (some g)) (o : OwnMv W' w.heap.size g' c' (ms.length + 1) (ms ++ [x])) : Lm w W' base R q h f h' f' bi ti g' c' (ms ++ [x]) := by
  obtain ⟨h1, h2, h3, ⟨h4, h5, h6⟩, h7, h8⟩ := k
  have n1 := own_own_ne h4 h7 (by decide)
  have n2 := own_own_ne h5 h7 (by decide)
  have n3 := blk_own_ne h3 h7 (by decide)
  have n4 := OwnV.le h7
  exact ⟨gbG h1 b n4, h2.keep fun j hj => b.block j (by have := h2.lt; omega) (by intro e; injection e; omega), h3.grown b (by intro e; injection e; omega), ⟨OwnV.grown h4 b (by intro e; injection e; omega), OwnV.grown h5 b (by intro e; injection e; omega), h6⟩, by simpa using o, h8⟩
theorem Lm.put {B u r u' r' : Nat} {bn : List BV} {tn : List Int} (k : Lm w W base R q h f h' f' bi ti g c ms) (o : LnO W B u r u' r' bn tn) :
    Lm w ((W.setCell ⟨w.heap.size, 0, none⟩ (.slice (some ⟨u, 0, none⟩) bn.length r)).setCell ⟨w.heap.size, 1, none⟩ (.slice (some ⟨u', 0, none⟩) tn.length r')) base R q u r u' r' bn tn g c ms := by
  obtain ⟨h1, h2, h3, _, h7, h8⟩ := k
  have n1 := blk_own_ne h3 o.1 (by decide)
  have n2 := blk_own_ne h3 o.2.1 (by decide)
  have n3 := blk_own_ne h3 h7 (by decide)
  refine ⟨gbS (gbS h1 (by omega) _) (by omega) _, rdS (rdS h2 (by omega) _) (by omega) _, ?_, ⟨OwnV.far (OwnV.far (OwnV.mono o.1 (by omega)) (by show u ≠ w.heap.size; omega) _) (by show u ≠ w.heap.size; omega) _, OwnV.far (OwnV.far (OwnV.mono o.2.1 (by omega)) (by show u' ≠ w.heap.size; omega) _) (by show u' ≠ w.heap.size; omega) _, o.2.2⟩, OwnV.far (OwnV.far h7 (by show g ≠ w.heap.size; omega) _) (by show g ≠ w.heap.size; omega) _, h8⟩
  have := (h3.set_ 0 (.slice (some ⟨u, 0, none⟩) bn.length r)).set_ 1 (.slice (some ⟨u', 0, none⟩) tn.length r')
  simpa using this
end
set_option maxHeartbeats 6400000 in
theorem l92Moves_any (base R p b d b' d' : Nat) (bs : List BV) (ts : List Int) (w : World) (hp : p ≤ 100000) (hr : Rdr w base R p) (hn : bs.length ≤ 1048576) (hm : ts.length ≤ 1048576) (B0 : Nat) (ho : LnO w B0 b d b' d' bs ts) :
    Calls Try.prog 52 #[.pointer (some ⟨R, 0, none⟩), .agg #[.slice (some ⟨b, 0, none⟩) bs.length d, .slice (some ⟨b', 0, none⟩) ts.length d']] w (SomeMvs w base R p) := by
  have M2 : Hid (Lm w ((w.alloc (.cells #[.slice (some ⟨b, 0, none⟩) bs.length d, .slice (some ⟨b', 0, none⟩) ts.length d'] 68)).alloc (.cells #[] 74)) base R p b d b' d' bs ts (w.heap.size + 1) 0 []) := Lib.hid (by
    have := OwnV.lit (w := w.alloc (.cells #[.slice (some ⟨b, 0, none⟩) bs.length d, .slice (some ⟨b', 0, none⟩) ts.length d'] 68)) (base := w.heap.size) (e := 74) (size := 2) (n := 0) #[] (by simp) (by unfold maxLen; omega) rfl
    exact ⟨gbA (gbA gbR), rdA (rdA hr), (Blk.new _ _ _).alloc _, ⟨((OwnV.mono ho.1 (by omega)).alloc _).alloc _, ((OwnV.mono ho.2.1 (by omega)).alloc _).alloc _, ho.2.2⟩, by unfold OwnMv; simpa [mcells] using this, hr.lt⟩)
  clear hr ho
  go_enter Try.func52, Try.ntmps52
  go_wp2_with fail
  generalize (w.alloc (.cells #[.slice (some ⟨b, 0, none⟩) bs.length d, .slice (some ⟨b', 0, none⟩) ts.length d'] 68)).alloc (.cells #[] 74) = W2 at *
  refine (pick_any base R p 12 _ (by omega) (by omega) M2.out.2.1).mono ?_
  rintro e w3 ⟨n, rfl, hx, hr3, hg3⟩
  have hn12 : n < 12 := by have := hx (by omega); omega
  have M3 := Lib.hid (M2.out.pick hg3 hr3)
  clear hx hr3 hg3 M2
  go_wp2_with fail
  go_loopw [5, 7] (fun o iq wr => ∃ (i : Nat) (ms : List MV) (g c : Nat) (bi : List BV) (ti : List Int) (h f h' f' : Nat), i ≤ n ∧ iq = .int .i64 i ∧ o = .slice (some ⟨g, 0, none⟩) ms.length c ∧ ms.length = i ∧ ShortL ms ∧ bi.length = bs.length ∧ ti.length = ts.length ∧ Lm w wr base R (p + 1 + i) h f h' f' bi ti g c ms) (fun _ q _ => n - (intOf q).toNat)
  case atStart => exact ⟨0, [], w.heap.size + 1, 0, bs, ts, b, d, b', d', by omega, rfl, rfl, rfl, (fun k hk => absurd hk (by simp)), rfl, rfl, M3.out⟩
  case round =>
    clear M3
    obtain ⟨i, ms, g, c, bi, ti, h, f, h', f', hi, rfl, rfl, hml, hsh, hl1, hl2, hM⟩ := hrel
    have M4 := Lib.hid hM
    have HSH := Lib.hid hsh
    have HML := Lib.hid hml
    have HLL := Lib.hid (And.intro hl1 hl2)
    have hbi : bi.length ≤ 1048576 := by omega
    have hti : ti.length ≤ 1048576 := by omega
    have hms12 : ms.length ≤ 11 := by omega
    clear hM hsh hml hl1 hl2
    by_cases hlt : i < n
    · have t0 := dec_t (show (i : Int) < (n : Int) by omega)
      obtain ⟨c0, c1, _, _⟩ := blkCells2 M4.out.2.2.1
      go_wp2_with fail
      refine (specMoves_any h f h' f' bi ti wr hbi hti M4.out.2.2.2.1.1.lt M4.out.2.2.2.1.2.1.lt M4.out.2.2.2.1.1.at M4.out.2.2.2.1.2.1.at).mono ?_
      rintro e w4 ⟨ns, g2, c2, rfl, ho4, hsn, hnl, hb4⟩
      have M5 := Lib.hid (M4.out.step hb4)
      have O5 := Lib.hid ho4
      have HSN := Lib.hid hsn
      have NR : Hid (g2 ≠ R) := Lib.hid (by have := OwnV.le ho4; have := M4.out.2.1.lt; omega)
      clear hb4 ho4 hsn c0 c1 M4
      by_cases h0 : ns.length = 0
      · have t1 := beq_t (show (ns.length : Int) = 0 by omega)
        clear h0 hlt
        go_wp2_with fail
        go_ret
        exact ⟨ms, g, c, p + 1 + i, rfl, M5.out.2.2.2.2.1, HSH.out, by omega, by omega, M5.out.2.1, M5.out.1⟩
      · have t1 := beq_f (show (ns.length : Int) ≠ 0 by omega)
        have t1n : (ns.length == 0) = false := by simpa using h0
        go_wp2_with fail
        refine (pick_any base R (p + 1 + i) ns.length _ (by omega) (by omega) M5.out.2.1).mono ?_
        rintro e w5 ⟨y, rfl, hy, hr5, hg5⟩
        have hy4 : y < ns.length := by have := hy (by omega); omega
        have i1 : (y : Int) < (ns.length : Int) := by omega
        have M6 := Lib.hid (M5.out.pick hg5 hr5)
        have O6 : Hid (OwnMv w5 wr.heap.size g2 c2 ns.length ns) := Lib.hid (OwnV.grown O5.out hg5 (by intro e; injection e; exact NR.out (by assumption)))
        clear hr5 hg5 hy M5 O5
        obtain ⟨c2', c3⟩ := O6.out.at y hy4
        obtain ⟨hs, hk⟩ := HSN.out y hy4
        generalize ns.getD y Z2m = mv at *
        obtain ⟨k, s⟩ := mv
        simp only [Nat.zero_add] at c2' c3 hs hk
        obtain ⟨⟨bn, tn⟩, hst⟩ := Option.ne_none_iff_exists'.1 hk
        have hln := stepV_len hst
        have HLN := Lib.hid hln
        have hss := fun W (k0 : LnO W 0 h f h' f' bi ti) => specStep_any h f h' f' bi ti k s W hbi hti (by omega) k0.1.lt k0.2.1.lt k0.1.at k0.2.1.at
        rw [hst] at hss
        unfold StepO at hss
        simp only at hss
        have HSS := Lib.hid hss
        clear hk hst hss hln
        have M7 := Lib.hid (M6.out.step (below_new w5 (.cells #[.int .i64 k, .string s] 74)))
        have K7 := Lib.hid (Blk.new w5 74 #[.int .i64 k, .string s])
        have NG : Hid (w5.heap.size ≠ g) := Lib.hid (by have := OwnV.lt M6.out.2.2.2.2.1; omega)
        have hilt : i + 1 ≤ n := hlt
        clear M6 O6 HSN NR h0 hlt hy4
        go_upto_region 10 with fail
        clear c2' c3
        generalize w5.alloc (.cells #[.int .i64 k, .string s] 74) = W7 at *
        generalize w5.heap.size = Q at *
        obtain ⟨y0, y1, _, _⟩ := blkCells2 K7.out
        go_upto_region 11 with (at_builtin; refine wpList_app1 slMv rfl (.tmp 31) (.tmp 33) rfl _ rfl M7.out.2.2.2.2.1 rfl rfl (by simp [Value.oneCell']) (by unfold maxLen; omega) (by omega) ?_; intro g9 c9 w9 hown9 hg9 hat9)
        have M9 := Lib.hid (M7.out.app hg9 (x := (k, s)) (g' := g9) (c' := c9) (by unfold OwnMv; rw [mcells_app]; simpa [mcells] using hown9))
        have K9 := Lib.hid (K7.out.grown hg9 (by intro e; injection e; exact NG.out (by assumption)))
        clear hown9 hg9 hat9 M7 K7 y0 y1
        obtain ⟨c0, c1, _, _⟩ := blkCells2 M9.out.2.2.1
        obtain ⟨y0, y1, _, _⟩ := blkCells2 K9.out
        go_wp2_with fail
        refine (HSS.out _ M9.out.2.2.2.1).mono ?_
        rintro e w10 ⟨u, r, u', r', rfl, ho, ho', hne, hb10⟩
        have M10 := Lib.hid (M9.out.step hb10)
        have O10 : Hid (LnO w10 w9.heap.size u r u' r' bn tn) := Lib.hid ⟨ho, ho', hne⟩
        clear hb10 ho ho' hne c0 c1 y0 y1 M9
        obtain ⟨c0, c1, f0, f1⟩ := blkCells2 M10.out.2.2.1
        have M11 := Lib.hid (M10.out.put O10.out)
        go_wp2_with fail
        go_roundw
        case rel => exact ⟨i + 1, ms ++ [(k, s)], g9, c9, bn, tn, u, r, u', r', by omega, by go_num, by simp, by simp [HML.out], HSH.out.snoc hs, HLN.out.1.trans HLL.out.1, HLN.out.2.trans HLL.out.2, M11.out⟩
        case measure => simp [intOf]; omega
    · obtain rfl : i = n := by omega
      have t0 := dec_f (show ¬ (i : Int) < (i : Int) by omega)
      go_wp2_with fail
      refine (pick_any base R (p + 1 + i) 12 _ (by omega) (by omega) M4.out.2.1).mono ?_
      rintro e w5 ⟨x, rfl, hx, hr5, hg5⟩
      have M5 := Lib.hid (M4.out.pick hg5 hr5)
      clear hr5 hg5 hx M4
      by_cases hx0 : x = 0
      · subst hx0
        go_wp2_with fail
        refine (pick_any base R (p + 1 + i + 1) 3 _ (by omega) (by omega) M5.out.2.1).mono ?_
        rintro e w6 ⟨y, rfl, hy, hr6, hg6⟩
        have M6 := Lib.hid (M5.out.pick hg6 hr6)
        clear hr6 hg6 hy M5
        go_wp2_with (at_builtin; refine wpList_app1 slMv rfl (.tmp 44) (.tmp 48) rfl _ rfl M6.out.2.2.2.2.1 rfl rfl (by simp [Value.oneCell']) (by unfold maxLen; omega) (by omega) ?_; intro g9 c9 w9 hown9 hg9 hat9)
        have M9 := Lib.hid (M6.out.app hg9 (x := ((y : Int), (⟨#[101]⟩ : ByteArray))) (g' := g9) (c' := c9) (by unfold OwnMv; rw [mcells_app]; simpa [mcells] using hown9))
        go_ret
        exact ⟨ms ++ [((y : Int), (⟨#[101]⟩ : ByteArray))], g9, c9, p + 1 + i + 1 + 1, by simp, M9.out.2.2.2.2.1, HSH.out.snoc (by show (⟨#[101]⟩ : ByteArray).size ≤ 8; decide), by simp; omega, by omega, M9.out.2.1, M9.out.1⟩
      · have t1 := beq_f (show (x : Int) ≠ 0 by omega)
        have t1n : (x == 0) = false := by simpa using hx0
        clear hx0
        go_wp2_with fail
        go_ret
        exact ⟨ms, g, c, p + 1 + i + 1, rfl, M5.out.2.2.2.2.1, HSH.out, by omega, by omega, M5.out.2.1, M5.out.1⟩
end Go.Proofs.Ytebejpaghajhkaa
