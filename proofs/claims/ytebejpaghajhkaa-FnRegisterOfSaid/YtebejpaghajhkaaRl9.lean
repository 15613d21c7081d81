/-
  The register of a section has its moves: DrawRegisterOf, the law FnRegisterOf. No condition.
-/
import Derived.Test.YtebejpaghajhkaaRg35
import Derived.Test.YtebejpaghajhkaaLn27
import Derived.Test.YtebejpaghajhkaaLn16
import Derived.Test.YtebejpaghajhkaaGb
namespace Go.Proofs.Ytebejpaghajhkaa
open Go.RowKit
set_option linter.unusedVariables false
set_option linter.unusedSimpArgs false

/-- Bounds of drawn times. -/
def BdT (ts : List Int) : Prop := ∀ k, k < ts.length → 0 ≤ ts.getD k 0 ∧ ts.getD k 0 ≤ 100
theorem BdT.nil : BdT [] := fun k hk => absurd hk (by simp)
theorem BdT.snoc {ts : List Int} {x : Int} (h : BdT ts) (hx : 0 ≤ x ∧ x ≤ 100) : BdT (ts ++ [x]) := by
  intro k hk
  simp only [List.length_append, List.length_cons, List.length_nil] at hk
  by_cases e : k < ts.length
  · have := h k e
    rwa [List.getD_eq_getElem?_getD, List.getElem?_append_left e, ← List.getD_eq_getElem?_getD]
  · have : k = ts.length := by omega
    subst this
    have e2 : (ts ++ [x]).getD ts.length 0 = x := by simp [List.getD]
    rw [e2]; exact hx
/-- What drawing moves and times leaves. -/
def DOf (w : World) (e : Ending) (w' : World) : Prop := ∃ (ms : List MV) (a cm : Nat), OwnMv w' w.heap.size a cm ms.length ms ∧ ShortL ms ∧ ms.length ≤ 12 ∧ Below w.heap.size w w' ∧
  ((∃ (A : Option Addr) (n ct : Nat), e = .returned (.tuple #[.slice (some ⟨a, 0, none⟩) ms.length cm, .slice A n ct, .int .i64 0]) ∧ n ≠ ms.length ∧ n ≤ 12) ∨
   (∃ (ts : List Int) (g c x : Nat), e = .returned (.tuple #[.slice (some ⟨a, 0, none⟩) ms.length cm, .slice (some ⟨g, 0, none⟩) ts.length c, .int .i64 (x : Int)]) ∧ Own w' w.heap.size g c ts ∧ BdT ts ∧ ts.length = ms.length ∧ x < 3))
/-- The reader, the moves, the times so far. -/
def Tm (w W : World) (base R q a cm : Nat) (ms : List MV) (g c : Nat) (ts : List Int) : Prop :=
  w.grownBy W (some R) ∧ Rdr W base R q ∧ OwnMv W w.heap.size a cm ms.length ms ∧ Own W w.heap.size g c ts ∧ R < w.heap.size
section
variable {w W W' : World} {base R q a cm g c : Nat} {ms : List MV} {ts : List Int}
theorem Tm.step (k : Tm w W base R q a cm ms g c ts) (b : Below W.heap.size W W') : Tm w W' base R q a cm ms g c ts := ⟨gbB k.1 b, rdB k.2.1 b, OwnV.below k.2.2.1 b (OwnV.lt k.2.2.1), k.2.2.2.1.below b k.2.2.2.1.lt, k.2.2.2.2⟩
theorem Tm.pick {q' : Nat} (k : Tm w W base R q a cm ms g c ts) (b : W.grownBy W' (some R)) (hr : Rdr W' base R q') : Tm w W' base R q' a cm ms g c ts := by
  have n1 := rdr_ne k.2.1 k.2.2.1 (by decide)
  have n2 := rdr_ne k.2.1 k.2.2.2.1 (by decide)
  exact ⟨grownBy_trans k.1 b, hr, OwnV.grown k.2.2.1 b (by intro e; injection e; omega), OwnV.grown k.2.2.2.1 b (by intro e; injection e; omega), k.2.2.2.2⟩
theorem Tm.app {g' c' : Nat} {x : Int} (k : Tm w W base R q a cm ms g c ts) (b : W.grownBy W' (some g)) (o : OwnM W' w.heap.size g' c' (ts.length + 1) (ts ++ [x])) : Tm w W' base R q a cm ms g' c' (ts ++ [x]) := by
  obtain ⟨h1, h2, h3, h4, h5⟩ := k
  have n1 := own_own_ne h3 h4 (by decide)
  have n4 := h4.le
  exact ⟨gbG h1 b n4, h2.keep fun j hj => b.block j (by have := h2.lt; omega) (by intro e; injection e; omega), OwnV.grown h3 b (by intro e; injection e; omega), o.own, h5⟩
end
set_option maxHeartbeats 3200000 in
theorem draw_rof (A : Option Addr) (c m : Nat) (w : World) (hmc : m ≤ c) (hc : c ≤ 9223372036854775807) (hr : ByteRow w w.heap.size A m) :
    Calls Try.prog 15 #[.slice A m c] w (DOf w) := by
  have HO := Lib.hid (open_any w.heap.size A m c w (Nat.le_refl _) hmc hc hr)
  clear hr
  go_enter Try.func15, Try.ntmps15
  go_wp2_with fail
  refine HO.out.mono ?_
  rintro e w2 ⟨rfl, hr2, hb2⟩
  have R2 := Lib.hid hr2
  have B2 := Lib.hid hb2
  have NL := Lib.hid hr2.lt
  clear hr2 hb2 HO
  go_wp2_with fail
  refine (pick_any w.heap.size w.heap.size 0 3 w2 (by omega) (by omega) R2.out).mono ?_
  rintro e w3 ⟨n, rfl, hn, hr3, hg3⟩
  have hn3 : n < 3 := by have := hn (by omega); omega
  have R3 := Lib.hid hr3
  have G3 := Lib.hid hg3
  have u1 : IntKind.i64.wrap (1 + (n : Int)) = 1 + (n : Int) := IntWalk.i64_in _ (by omega)
  clear hr3 hg3 hn R2
  go_wp2_with fail
  refine (pick_any w.heap.size w.heap.size 1 4 w3 (by omega) (by omega) R3.out).mono ?_
  rintro e w4 ⟨t, rfl, ht, hr4, hg4⟩
  have ht4 : t < 4 := by have := ht (by omega); omega
  have R4 := Lib.hid hr4
  have G4 := Lib.hid (grownBy_trans G3.out hg4)
  clear hr4 hg4 ht R3 G3
  have hv : (inB 1 5 ((n + 1 : Nat) : Int) && inB 0 5 (t : Int)) = true := by rw [inB_true ⟨by omega, by omega⟩, inB_true ⟨by omega, by omega⟩]; rfl
  have hnw := specNew_any ((n + 1 : Nat) : Int) (t : Int) w4
  rw [new_some hv, show ((n + 1 : Nat) : Int) = 1 + (n : Int) by omega] at hnw
  have HNW := Lib.hid hnw
  clear hnw hv
  go_wp2_with fail
  refine HNW.out.mono ?_
  rintro e w5 ⟨g, d, g', d', rfl, ho, ho', hne, hb5⟩
  have O5 : Hid (LnO w5 w4.heap.size g d g' d' (List.replicate (n + 1) Z3) (List.replicate t 0)) := Lib.hid ⟨ho, ho', hne⟩
  have G5 := Lib.hid (gbB G4.out hb5)
  have R5 := Lib.hid (rdB R4.out hb5)
  have hl1 : (List.replicate (n + 1) Z3).length = n + 1 := List.length_replicate
  have hl2 : (List.replicate t (0 : Int)).length = t := List.length_replicate
  have M6 : Hid (LnO (w5.alloc (.cells #[.slice (some ⟨g, 0, none⟩) (n + 1) d, .slice (some ⟨g', 0, none⟩) t d'] 68)) w4.heap.size g d g' d' (List.replicate (n + 1) Z3) (List.replicate t 0)) := Lib.hid (O5.out.below (below_new _ _))
  have hmv := l92Moves_any w.heap.size w.heap.size 2 g d g' d' (List.replicate (n + 1) Z3) (List.replicate t 0) (w5.alloc (.cells #[.slice (some ⟨g, 0, none⟩) (n + 1) d, .slice (some ⟨g', 0, none⟩) t d'] 68)) (by omega) (rdA R5.out) (by rw [hl1]; omega) (by rw [hl2]; omega) w4.heap.size M6.out
  rw [hl1, hl2] at hmv
  have HMV := Lib.hid hmv
  have G6 := Lib.hid (gbA (o := .cells #[.slice (some ⟨g, 0, none⟩) (n + 1) d, .slice (some ⟨g', 0, none⟩) t d'] 68) G5.out)
  clear hb5 ho ho' hne hl1 hl2 hmv M6 O5 G5 R5
  go_wp2_with fail
  refine HMV.out.mono ?_
  rintro e w7 ⟨ms, a, cm, q, rfl, hO, hS, hL, hq, hr7, hg7⟩
  have T8 : Hid (Tm w2 (w7.alloc (.cells #[] 3)) w.heap.size w.heap.size q a cm ms w7.heap.size 0 []) := Lib.hid (by
    have h1 := grownBy_trans G6.out hg7
    exact ⟨gbA h1, rdA hr7, OwnV.alloc (OwnV.mono hO (Nat.le_trans G6.out.size (OwnV.le hO))) _, own_empty w7 w2.heap.size h1.size, NL.out⟩)
  have SH := Lib.hid hS
  clear hO hS hr7 hg7 HMV G6
  go_upto_region 5 with fail
  generalize w7.alloc (.cells #[] 3) = W8 at *
  generalize w7.heap.size = g8 at *
  go_wp2_with fail
  refine (pick_any w.heap.size w.heap.size q 20 W8 (by omega) (by omega) T8.out.2.1).mono ?_
  rintro e w9 ⟨x0, rfl, hx0, hr9, hg9⟩
  have hx20 : x0 < 20 := by have := hx0 (by omega); omega
  have T9 := Lib.hid (T8.out.pick hg9 hr9)
  clear hr9 hg9 hx0 T8
  go_wp2_with fail
  go_loopw [9, 10, 11] (fun o t i wr => ∃ (k x : Nat) (ts : List Int) (g c : Nat), k ≤ ms.length ∧ i = .int .i64 k ∧ t = .int .i64 x ∧ x ≤ 19 + 3 * k ∧ o = .slice (some ⟨g, 0, none⟩) ts.length c ∧ ts.length = k ∧ BdT ts ∧ Tm w2 wr w.heap.size w.heap.size (q + 1 + k) a cm ms g c ts) (fun _ _ i _ => ms.length - (intOf i).toNat)
  case atStart => exact ⟨0, x0, [], g8, 0, by omega, rfl, rfl, by omega, rfl, rfl, BdT.nil, T9.out⟩
  case round =>
    clear T9
    obtain ⟨k, x, ts, g, c, hk, rfl, rfl, hx, rfl, htl, hbd, hT⟩ := hrel
    have T10 := Lib.hid hT
    have BD := Lib.hid hbd
    have HTL := Lib.hid htl
    have ht12 : ts.length ≤ 12 := by omega
    clear hT hbd htl
    by_cases hlt : k < ms.length
    · have t0 := dec_t (show (k : Int) < (ms.length : Int) by omega)
      have hk1 : k + 1 ≤ ms.length := hlt
      clear hlt
      go_wp2_with (at_builtin; refine wpList_app1i rfl (.tmp 35) (.tmp 37) rfl _ rfl T10.out.2.2.2.1 rfl (by omega) ?_; intro g9 c9 w9' hown9 hg9 hat9)
      have T11 := Lib.hid (T10.out.app hg9 (g' := g9) (c' := c9) hown9)
      clear hown9 hg9 hat9 T10
      go_wp2_with fail
      refine (pick_any w.heap.size w.heap.size (q + 1 + k) 4 w9' (by omega) (by omega) T11.out.2.1).mono ?_
      rintro e w12 ⟨y, rfl, hy, hr12, hg12⟩
      have hy4 : y < 4 := by have := hy (by omega); omega
      have T12 := Lib.hid (T11.out.pick hg12 hr12)
      have u2 : IntKind.i64.wrap ((x : Int) + (y : Int)) = (x : Int) + (y : Int) := IntWalk.i64_in _ (by omega)
      clear hr12 hg12 hy T11
      go_wp2_with fail
      go_roundw
      case rel => exact ⟨k + 1, x + y, ts ++ [(x : Int)], g9, c9, hk1, by go_num, by congr 1, by omega, by simp, by simp [HTL.out], BD.out.snoc (by omega), T12.out⟩
      case measure => simp [intOf]; omega
    · obtain rfl : k = ms.length := by omega
      have t0 := dec_f (show ¬ (ms.length : Int) < (ms.length : Int) by omega)
      have FIN : Hid (∀ W q', Tm w2 W w.heap.size w.heap.size q' a cm ms g c ts → OwnMv W w.heap.size a cm ms.length ms ∧ Own W w.heap.size g c ts ∧ Below w.heap.size w W) := Lib.hid (fun W q' h => ⟨OwnV.mono h.2.2.1 (Nat.le_trans B2.out.size (OwnV.le h.2.2.1)), OwnV.mono h.2.2.2.1 (Nat.le_trans B2.out.size (OwnV.le h.2.2.2.1)), below_app B2.out h.1 (Nat.le_refl _)⟩)
      clear hlt
      by_cases h0 : ts.length = 0
      · have t1 := dec_f (show ¬ (0 : Int) < (ts.length : Int) by omega)
        have t1n := dec_f (show ¬ 0 < ts.length by omega)
        clear h0
        go_wp2_with fail
        refine (pick_any w.heap.size w.heap.size (q + 1 + ms.length) 3 _ (by omega) (by omega) T10.out.2.1).mono ?_
        rintro e w12 ⟨y, rfl, hy, hr12, hg12⟩
        have hy3 : y < 3 := by have := hy (by omega); omega
        have F := Lib.hid (FIN.out _ _ (T10.out.pick hg12 hr12))
        clear hr12 hg12 hy T10
        go_wp2_with fail
        refine bodyPost_ret (v := .tuple #[.slice (some ⟨a, 0, none⟩) ms.length cm, .slice (some ⟨g, 0, none⟩) ts.length c, .int .i64 (y : Int)]) (by simp [results, Try.results15, go_sem]) rfl ?_
        exact ⟨ms, a, cm, F.out.1, SH.out, hL, F.out.2.2, .inr ⟨ts, g, c, y, rfl, F.out.2.1, BD.out, HTL.out, hy3⟩⟩
      · have t1 := dec_t (show (0 : Int) < (ts.length : Int) by omega)
        have t1n := dec_t (show 0 < ts.length by omega)
        go_wp2_with fail
        refine (pick_any w.heap.size w.heap.size (q + 1 + ms.length) 16 _ (by omega) (by omega) T10.out.2.1).mono ?_
        rintro e w12 ⟨y, rfl, hy, hr12, hg12⟩
        have T12 := Lib.hid (T10.out.pick hg12 hr12)
        clear hr12 hg12 hy T10
        by_cases hy0 : y = 0
        · subst hy0
          have F := Lib.hid (FIN.out _ _ T12.out)
          have i1 : (1 : Int) ≤ (ts.length : Int) := by omega
          have i1n : 1 ≤ ts.length := by omega
          obtain ⟨A2, hA2⟩ : ∃ A2, (if c = 1 then some (⟨g, 0, none⟩ : Addr) else some ⟨g, 1, none⟩) = A2 := ⟨_, rfl⟩
          have hcap : (ts.length : Int) ≤ (c : Int) := by have := OwnV.cap T12.out.2.2.2.1; omega
          have NE : Hid (ts.length - 1 ≠ ms.length ∧ ts.length - 1 ≤ 12) := Lib.hid (by have := HTL.out; omega)
          clear h0
          go_wp2_with fail
          go_quiet (fail)
          go_wp2_with fail
          refine bodyPost_ret (v := .tuple #[.slice (some ⟨a, 0, none⟩) ms.length cm, .slice A2 (ts.length - 1) (c - 1), .int .i64 0]) (by simp [results, Try.results15, go_sem]) rfl ?_
          exact ⟨ms, a, cm, F.out.1, SH.out, hL, below_drewN F.out.2.2 _, .inl ⟨A2, ts.length - 1, c - 1, rfl, NE.out.1, NE.out.2⟩⟩
        · have t2 := beq_f (show (y : Int) ≠ 0 by omega)
          have t2n : (y == 0) = false := by simpa using hy0
          clear hy0 h0
          go_wp2_with fail
          refine (pick_any w.heap.size w.heap.size (q + 1 + ms.length + 1) 3 _ (by omega) (by omega) T12.out.2.1).mono ?_
          rintro e w13 ⟨z, rfl, hz, hr13, hg13⟩
          have hz3 : z < 3 := by have := hz (by omega); omega
          have F := Lib.hid (FIN.out _ _ (T12.out.pick hg13 hr13))
          clear hr13 hg13 hz T12
          go_wp2_with fail
          refine bodyPost_ret (v := .tuple #[.slice (some ⟨a, 0, none⟩) ms.length cm, .slice (some ⟨g, 0, none⟩) ts.length c, .int .i64 (z : Int)]) (by simp [results, Try.results15, go_sem]) rfl ?_
          exact ⟨ms, a, cm, F.out.1, SH.out, hL, F.out.2.2, .inr ⟨ts, g, c, z, rfl, F.out.2.1, BD.out, HTL.out, hz3⟩⟩
/-- The law's list. -/
def Lu (w W : World) (g : Nat) (ns : List NV) : Prop := Below w.heap.size w W ∧ g < W.heap.size ∧ AtNt W g 0 ns
/-- The law's moves and times. -/
def Lo (w W : World) (a : Nat) (ms : List MV) (g : Nat) (ts : List Int) : Prop := Below w.heap.size w W ∧ (a < W.heap.size ∧ AtMv W a 0 ms) ∧ (g < W.heap.size ∧ AtInts W g 0 ts)
section
variable {w W W' : World} {a g : Nat} {ns : List NV} {ms : List MV} {ts : List Int}
theorem Lu.step (h : Lu w W g ns) (k : Below W.heap.size W W') : Lu w W' g ns := ⟨below_to h.1 k h.1.size, Nat.lt_of_lt_of_le h.2.1 k.size, h.2.2.below k h.2.1⟩
theorem Lu.drewN (h : Lu w W g ns) (n : Nat) : Lu w (W.drewN n) g ns := h.step (Qt.below ⟨n, rfl⟩ _)
theorem Lu.rd (h : Lu w W g ns) : RdNt W (some ⟨g, 0, none⟩) ns := fun _ => ⟨g, 0, rfl, h.2.1, h.2.2⟩
theorem Lo.step (h : Lo w W a ms g ts) (k : Below W.heap.size W W') : Lo w W' a ms g ts := ⟨below_to h.1 k h.1.size, ⟨Nat.lt_of_lt_of_le h.2.1.1 k.size, h.2.1.2.below k h.2.1.1⟩, ⟨Nat.lt_of_lt_of_le h.2.2.1 k.size, h.2.2.2.below k h.2.2.1⟩⟩
theorem Lo.drewN (h : Lo w W a ms g ts) (n : Nat) : Lo w (W.drewN n) a ms g ts := h.step (Qt.below ⟨n, rfl⟩ _)
end
theorem late_snoc {ts : List Int} {i : Nat} (h : i < ts.length) : (ts.take (i + 1)).map (· + 10) = (ts.take i).map (· + 10) ++ [ts.getD i 0 + 10] := by
  have e : ts.getD i 0 = ts[i] := by simp [List.getD, h]
  rw [List.take_succ_eq_append_getElem h, List.map_append, e]
  rfl
set_option maxRecDepth 100000 in
set_option maxHeartbeats 3200000 in
theorem law_RegisterOf (A : Option Addr) (c : Nat) (zs : List Int) (w : World) (hq : ArgBytes w A c zs) :
    Calls Try.prog 3 #[.slice A zs.length c] w fun e w' => e = .returned (.bool true) ∧ Below w.heap.size w w' := by
  obtain ⟨hr, hlc, hc⟩ := hq
  by_cases hbig : 1048576 < zs.length
  · have t0 := dec_t (show (1048576 : Int) < (zs.length : Int) by omega)
    go_enter Try.func3, Try.ntmps3
    go_wp2_with fail
    go_ret
    exact ⟨rfl, Below.refl _ _⟩
  have t0 := dec_f (show ¬ (1048576 : Int) < (zs.length : Int) by omega)
  have HD := Lib.hid (draw_rof A c zs.length w hlc hc hr)
  clear hr
  go_enter Try.func3, Try.ntmps3
  go_wp2_with fail
  refine HD.out.mono ?_
  rintro e w1 ⟨ms, a, cm, ho, hs, hm12, hb1, ⟨A2, n, ct, rfl, hne, hn12⟩ | ⟨ts, g, c1, x, rfl, ho', hbd, htl, hx⟩⟩
  · have B1 := Lib.hid hb1
    have HI := Lib.hid (fun W => implOf_ne a cm n ct A2 ms 0 W (by omega) (by omega) hne)
    have HS := Lib.hid (fun W => specOf_ne a cm n ct A2 ms 0 W (by omega) (by omega) hne)
    clear ho hs hb1 hne HD
    go_wp2_with fail
    refine (HI.out _).mono ?_
    rintro e w2 ⟨g2, c2, rfl, _, hb2⟩
    have B2 := Lib.hid (below_to B1.out hb2 B1.out.size)
    clear hb2 B1
    go_wp2_with fail
    refine (HS.out _).mono ?_
    rintro e w3 ⟨g3, c3, rfl, _, hb3⟩
    have B3 := Lib.hid (below_to B2.out hb3 B2.out.size)
    clear hb3 B2
    have HSN := Lib.hid (fun A A' W => sameNotes_nil c2 c3 A A' W)
    go_wp2_with (go_at_call 18; go_must (go_fit (HSN.out _ _ _); rintro e w4 ⟨rfl, rfl⟩))
    go_ret
    exact ⟨rfl, B3.out⟩
  · have L1 : Hid (Lo w w1 a ms g ts) := Lib.hid ⟨hb1, ⟨OwnV.lt ho, OwnMv.at ho⟩, ⟨ho'.lt, ho'.at⟩⟩
    have SH := Lib.hid hs
    have BD := Lib.hid hbd
    have HTL := Lib.hid htl
    have hi := fun (W : World) (h : Lo w W a ms g ts) => implOf_any a cm g c1 ms ts (x : Int) W (by omega) htl hs h.2.1.1 h.2.2.1 h.2.1.2 h.2.2.2
    have hsp := fun (W : World) (h : Lo w W a ms g ts) => specOf_any a cm g c1 ms ts (x : Int) W (by omega) htl hs h.2.1.1 h.2.2.1 h.2.1.2 h.2.2.2
    have ht12 : ts.length ≤ 12 := by omega
    clear ho ho' hs hb1 hbd HD
    cases hv : regB (ofK ms ts (x : Int) ms.length) with
    | false =>
      simp only [ofR_f hv] at hi hsp
      have HI := Lib.hid hi
      have HS := Lib.hid hsp
      clear hi hsp hv htl
      go_wp2_with fail
      refine (HI.out _ L1.out).mono ?_
      rintro e w2 ⟨g2, c2, rfl, _, hb2⟩
      have L2 := Lib.hid (L1.out.step hb2)
      clear hb2 L1
      go_wp2_with fail
      refine (HS.out _ L2.out).mono ?_
      rintro e w3 ⟨g3, c3, rfl, _, hb3⟩
      have L3 := Lib.hid (L2.out.step hb3)
      clear hb3 L2
      have HSN := Lib.hid (fun A A' W => sameNotes_nil c2 c3 A A' W)
      go_wp2_with (go_at_call 18; go_must (go_fit (HSN.out _ _ _); rintro e w4 ⟨rfl, rfl⟩))
      go_ret
      exact ⟨rfl, L3.out.1⟩
    | true =>
      simp only [ofR_t hv] at hi hsp
      have hsn := ofK_szN (ts := ts) (k := (x : Int)) SH.out (show ms.length ≤ 1048576 by omega)
      have hlatK := ofK_lat (ms := ms) (ts := ts) (k := (x : Int)) (x := 10) (i := ms.length) (by omega)
      have hlaw := of_law hv
      have htx := txt_of ms ts (x : Int) ms.length
      have hnl := ofK_len ms ts (x : Int) ms.length
      have h5 := fun (W : World) (gl cl : Nat) (h : Lo w W a ms g ts) (hg : gl < W.heap.size) (hat : AtInts W gl 0 (ts.map (· + 10))) => implOf_any a cm gl cl ms (ts.map (· + 10)) (x : Int) W (by omega) (by rw [List.length_map]; exact htl) SH.out h.2.1.1 hg h.2.1.2 hat
      rw [hlatK] at h5
      simp only [List.length_map] at h5
      have h8 := fun (W : World) (h : Lo w W a ms g ts) => lineText_any a 0 cm ms (x : Int) W (by omega) SH.out h.2.1.1 h.2.1.2
      rw [← htx] at h8
      obtain ⟨N, hN⟩ : ∃ N, ofK ms ts (x : Int) ms.length = N := ⟨_, rfl⟩
      rw [hN] at hi hsp hsn hlaw hnl h5 h8 hv
      have h7 := fun (W : World) (k c2 : Nat) (h : Lu w W k N) => implText_any (some ⟨k, 0, none⟩) c2 N W hsn h.rd
      rw [hv, if_pos rfl] at h7
      have h6 := fun (W : World) (k c2 : Nat) (h : Lu w W k N) => implLate_any (some ⟨k, 0, none⟩) c2 N 10 W hsn h.rd
      have hml := lat_len N 10
      generalize txt N = T at *
      have te : (T.toList == T.toList) = true := beq_self_eq_true _
      have HI := Lib.hid hi
      have HS := Lib.hid hsp
      have H5 := Lib.hid h5
      have H6 := Lib.hid h6
      have H7 := Lib.hid h7
      have H8 := Lib.hid h8
      have HLAW := Lib.hid hlaw
      have HML : Hid ((lat N 10).length ≤ 12) := Lib.hid (by rw [hml]; omega)
      have hn12 : N.length ≤ 12 := by omega
      clear hi hsp h5 h6 h7 h8 hlaw hml hnl hsn hlatK htx hN hv htl
      go_wp2_with fail
      refine (HI.out _ L1.out).mono ?_
      rintro e w2 ⟨g2, c2, rfl, ho2, hb2⟩
      have L2 := Lib.hid (L1.out.step hb2)
      have O2 : Hid (Lu w w2 g2 N) := Lib.hid ⟨L2.out.1, ho2.lt, ho2.at⟩
      clear hb2 ho2 L1
      go_wp2_with fail
      refine (HS.out _ L2.out).mono ?_
      rintro e w3 ⟨g3, c3, rfl, ho3, hb3⟩
      have L3 := Lib.hid (L2.out.step hb3)
      have O3 := Lib.hid (O2.out.step hb3)
      have P3 : Hid (Lu w w3 g3 N) := Lib.hid ⟨L3.out.1, ho3.lt, ho3.at⟩
      clear hb3 ho3 L2 O2
      go_wp2_with fail
      refine (sameNotes_same g2 0 c2 g3 0 c3 N _ (by omega) O3.out.2.2 P3.out.2.2).mono ?_
      rintro e w4 ⟨rfl, n4, rfl⟩
      have L4 := Lib.hid (L3.out.drewN n4)
      have O4 := Lib.hid (O3.out.drewN n4)
      clear L3 O3 P3
      generalize w3.drewN n4 = w4 at *
      have I5 := Lib.hid (ownM_empty w4 w4.heap.size (Nat.le_refl _))
      have B5 := Lib.hid (below_new w4 (.cells #[] 3))
      go_upto_region 9 with fail
      generalize w4.alloc (.cells #[] 3) = W5 at *
      go_wp2_with fail
      go_loopw [10, 11] (fun o iq wr => ∃ i gl cl : Nat, i ≤ ts.length ∧ iq = .int .i64 i ∧ o = .slice (some ⟨gl, 0, none⟩) i cl ∧ OwnM wr w4.heap.size gl cl i ((ts.take i).map (· + 10)) ∧ Below w4.heap.size w4 wr) (fun _ q _ => ts.length - (intOf q).toNat)
      case atStart => exact ⟨0, _, 0, by omega, rfl, rfl, by simpa using I5.out, B5.out⟩
      case round =>
        clear I5 B5
        obtain ⟨i, gl, cl, hi, rfl, rfl, hown, hbel⟩ := hrel
        have HO := Lib.hid hown
        have HB := Lib.hid hbel
        clear hown hbel
        by_cases hlt : i < ts.length
        · have u0 := dec_t (show (i : Int) < (ts.length : Int) by omega)
          have i1 : (i : Int) < (ts.length : Int) := by omega
          have hi1 : i + 1 ≤ ts.length := hlt
          have q0 := (L4.out.step HB.out).2.2.2 i hlt
          rw [Nat.zero_add] at q0
          have hsn := late_snoc hlt
          have hb := BD.out i hlt
          obtain ⟨t, htt⟩ : ∃ t, ts.getD i 0 = t := ⟨_, rfl⟩
          rw [htt] at q0 hsn hb
          have u1 : IntKind.i64.wrap (t + 10) = t + 10 := IntWalk.i64_in _ (by omega)
          have HSN := Lib.hid hsn
          clear hsn htt hlt
          go_wp2_with (at_builtin; refine wpList_app1i (z := t + 10) rfl (.tmp 67) (.tmp 73) rfl _ rfl HO.out rfl (by omega) ?_; intro g9 c9 w9 hown9 hg9 hat9)
          have O9 : Hid (OwnM w9 w4.heap.size g9 c9 (i + 1) ((ts.take (i + 1)).map (· + 10))) := Lib.hid (by rw [HSN.out]; exact hown9)
          have B9 := Lib.hid (below_app HB.out hg9 HO.out.le)
          clear hown9 hg9 hat9
          go_roundw
          case rel => exact ⟨i + 1, g9, c9, hi1, by go_num, rfl, O9.out, B9.out⟩
          case measure => simp [intOf]; omega
        · obtain rfl : i = ts.length := by omega
          have u0 := dec_f (show ¬ (ts.length : Int) < (ts.length : Int) by omega)
          have e : ts.take ts.length = ts := List.take_length
          rw [e] at HO
          have L6 := Lib.hid (L4.out.step HB.out)
          have O6 := Lib.hid (O4.out.step HB.out)
          have h9 := H5.out _ gl cl L6.out HO.out.lt HO.out.own.at
          have h10 := fun (W : World) (h : Lu w W g2 N) => H6.out W g2 c2 h
          cases hw : lateB N 10 with
          | true =>
            rw [ofR_t (HLAW.out.trans hw)] at h9
            simp only [lateR_t hw] at h10
            have H9 := Lib.hid h9
            have H10 := Lib.hid h10
            generalize lat N 10 = M at *
            clear h9 h10 hw e hlt
            go_wp2_with fail
            refine H9.out.mono ?_
            rintro e w7 ⟨g7, c7, rfl, ho7, hb7⟩
            have L7 := Lib.hid (L6.out.step hb7)
            have O7 := Lib.hid (O6.out.step hb7)
            have X7 : Hid (Lu w w7 g7 M) := Lib.hid ⟨L7.out.1, ho7.lt, ho7.at⟩
            clear hb7 ho7 L6 O6 HO HB
            go_wp2_with fail
            refine (H10.out _ O7.out).mono ?_
            rintro e w8 ⟨g8, c8, rfl, ho8, hb8⟩
            have L8 := Lib.hid (L7.out.step hb8)
            have O8 := Lib.hid (O7.out.step hb8)
            have X8 := Lib.hid (X7.out.step hb8)
            have Y8 : Hid (Lu w w8 g8 M) := Lib.hid ⟨L8.out.1, ho8.lt, ho8.at⟩
            clear hb8 ho8 L7 O7 X7
            go_wp2_with fail
            refine (sameNotes_same g7 0 c7 g8 0 c8 M _ (by have := HML.out; omega) X8.out.2.2 Y8.out.2.2).mono ?_
            rintro e w9 ⟨rfl, n9, rfl⟩
            have L9 := Lib.hid (L8.out.drewN n9)
            have O9 := Lib.hid (O8.out.drewN n9)
            clear L8 O8 X8 Y8
            generalize w8.drewN n9 = w9 at *
            go_wp2_with fail
            refine (H7.out _ g2 c2 O9.out).mono ?_
            rintro e w10 ⟨rfl, hb10⟩
            have L10 := Lib.hid (L9.out.step hb10)
            clear hb10 L9 O9
            go_wp2_with fail
            refine (H8.out _ L10.out).mono ?_
            rintro e w11 ⟨rfl, hb11⟩
            have L11 := Lib.hid (L10.out.step hb11)
            clear hb11 L10
            go_wp2_with fail
            go_ret
            exact ⟨rfl, L11.out.1⟩
          | false =>
            rw [ofR_f (HLAW.out.trans hw)] at h9
            simp only [lateR_f hw] at h10
            have H9 := Lib.hid h9
            have H10 := Lib.hid h10
            clear h9 h10 hw e hlt
            go_wp2_with fail
            refine H9.out.mono ?_
            rintro e w7 ⟨g7, c7, rfl, _, hb7⟩
            have L7 := Lib.hid (L6.out.step hb7)
            have O7 := Lib.hid (O6.out.step hb7)
            clear hb7 L6 O6 HO HB
            go_wp2_with fail
            refine (H10.out _ O7.out).mono ?_
            rintro e w8 ⟨g8, c8, rfl, _, hb8⟩
            have L8 := Lib.hid (L7.out.step hb8)
            have O8 := Lib.hid (O7.out.step hb8)
            have HSN := Lib.hid (fun A A' W => sameNotes_nil c7 c8 A A' W)
            clear hb8 L7 O7
            go_wp2_with fail
            refine (HSN.out _ _ _).mono ?_
            rintro e w9 ⟨rfl, rfl⟩
            go_wp2_with fail
            refine (H7.out _ g2 c2 O8.out).mono ?_
            rintro e w10 ⟨rfl, hb10⟩
            have L10 := Lib.hid (L8.out.step hb10)
            clear hb10 L8 O8
            go_wp2_with fail
            refine (H8.out _ L10.out).mono ?_
            rintro e w11 ⟨rfl, hb11⟩
            have L11 := Lib.hid (L10.out.step hb11)
            clear hb11 L10
            go_wp2_with fail
            go_ret
            exact ⟨rfl, L11.out.1⟩
end Go.Proofs.Ytebejpaghajhkaa
