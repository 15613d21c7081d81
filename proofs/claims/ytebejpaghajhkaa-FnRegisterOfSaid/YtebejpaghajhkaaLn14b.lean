/-
  Lines: LineStep of the reference: a train enters. No condition.
-/
import Derived.Test.YtebejpaghajhkaaLn14
namespace Go.Proofs.Ytebejpaghajhkaa
open Go.RowKit
set_option linter.unusedVariables false
set_option linter.unusedSimpArgs false

set_option maxHeartbeats 6400000 in
theorem l4Step_e_no (b c t c' k : Nat) (bs : List BV) (ts : List Int) (s : ByteArray) (w : World) (hn : bs.length ≤ 5) (hm : ts.length ≤ 5) (hk : k < bs.length) (hs : s.size ≤ 9223372036854775807) (hb : b < w.heap.size) (ht : t < w.heap.size) (ha : AtBl w b 0 bs) (hi : AtInts w t 0 ts) (hj : bstep (bs.getD k Z3) s = 3) (hs1 : s = ⟨#[101]⟩) (hq : atF ts (2 * (k : Int)) ts.length < 0) :
    Calls Try.prog 94 #[.agg #[.slice (some ⟨b, 0, none⟩) bs.length c, .slice (some ⟨t, 0, none⟩) ts.length c'], .agg #[.int .i64 (k : Int), .string s]] w (StepO w (none)) := by
  unfold StepO
  simp only
  have S3 := Lib.hid (Ls.new (c := c) (c' := c') (m := (k : Int)) (s := s) hb ht ha hi)
  have h6 := fun w => l6In_any (k : Int) 0 ((bs.length : Int) - 1) w
  rw [inB_true (show 0 ≤ (k : Int) ∧ (k : Int) ≤ (bs.length : Int) - 1 by omega)] at h6
  have H6 := Lib.hid h6
  have u0 : IntKind.i64.wrap ((bs.length : Int) - 1) = (bs.length : Int) - 1 := IntWalk.i64_in _ (by omega)
  have i1 : (k : Int) < (bs.length : Int) := by omega
  have KK := Lib.hid hk
  obtain ⟨⟨n, i, o⟩, hx⟩ : ∃ x, bs.getD k Z3 = x := ⟨_, rfl⟩
  rw [hx] at hj
  have hbs := fun w => specBstep_any n i o s w hs
  unfold BstV at hbs
  rw [bst_t hj (by omega), hj, dec_t (show 3 < 5 by omega)] at hbs
  obtain ⟨X, hX⟩ : ∃ X, st 3 = X := ⟨_, rfl⟩
  rw [hX] at hbs
  obtain ⟨Xn, Xi, Xo⟩ := X
  simp only [bv] at hbs
  have HST := Lib.hid hX
  clear hX
  have te := (str_e (s := s)).trans (dec_t hs1)
  have te' := te
  rw [lit_e] at te'
  have tl := (str_l (s := s)).trans (dec_f (by rw [hs1]; decide))
  have tl' := tl
  rw [lit_l] at tl'
  clear hs1
  have hat := fun W (h : LnAt W w.heap.size b c t c' bs ts) => l4At_any b c t c' bs ts (2 * (k : Int)) W (by omega) h.2.2.2.1 h.2.2.2.2 h.2.1 h.2.2.1
  obtain ⟨C, hC⟩ : ∃ C, atF ts (2 * (k : Int)) ts.length = C := ⟨_, rfl⟩
  rw [hC] at hat hq
  have HAT := Lib.hid hat
  have u1 : IntKind.i64.wrap (2 * (k : Int)) = 2 * (k : Int) := IntWalk.i64_in _ (by omega)
  have u2 : IntKind.i64.wrap (2 * (k : Int) + 1) = 2 * (k : Int) + 1 := IntWalk.i64_in _ (by omega)
  have v9 := dec_t hq
  clear hC hat
  have HX := Lib.hid hx
  have HBS := Lib.hid hbs
  have HCL : Hid (∀ W, Ls w W b c t c' bs ts (k : Int) s → W.cell? ⟨b, k * 3, none⟩ = some (.int .i64 n) ∧ W.cell? ⟨b, k * 3 + 1, none⟩ = some (.bool i) ∧ W.cell? ⟨b, k * 3 + 2, none⟩ = some (.bool o)) := Lib.hid fun W h => by
    have := h.2.1.2.1.at0 KK.out
    rw [HX.out] at this
    exact this
  have BL := Lib.hid hb
  have TL := Lib.hid ht
  clear hx hbs hj hk h6 ha hi hb ht
  go_enter Try.func94, Try.ntmps94
  go_wp2_with fail
  generalize ((w.alloc (.cells #[.slice (some ⟨b, 0, none⟩) bs.length c, .slice (some ⟨t, 0, none⟩) ts.length c'] 68)).alloc (.cells #[.int .i64 (k : Int), .string s] 74)).alloc (.cells #[.slice none 0 0, .slice none 0 0] 68) = W2 at *
  obtain ⟨⟨c0, c1⟩, x0, x1⟩ := S3.out.box
  obtain ⟨p0, p1, p2⟩ := HCL.out _ S3.out
  have n0 := World.new_ne W2 _ c0
  have n2 := World.new_ne W2 _ x0
  have n4 := World.new_ne W2 _ p0
  go_upto_region 3 with (go_at_call 65; go_must (go_fit (H6.out _); rintro e w9 ⟨rfl, rfl⟩))
  clear u0
  go_cut [6, 7] (fun a6 a7 wx => ∃ P : Nat, a6 = .pointer (some ⟨P, 0, none⟩) ∧ a7 = .bool true ∧ Ls w wx b c t c' bs ts (k : Int) s ∧ Blk wx P 59 #[.int .i64 Xn, .bool Xi, .bool Xo] ∧ w.heap.size + 2 < P)
  case first =>
    go_region_held3 (fun w' => w'.cell? ⟨w.heap.size, 0, none⟩ = some (.slice (some ⟨b, 0, none⟩) bs.length c) ∧ w'.cell? ⟨w.heap.size + 1, 0, none⟩ = some (.int .i64 (k : Int)) ∧ w'.cell? ⟨w.heap.size + 1, 1, none⟩ = some (.string s) ∧ w'.cell? ⟨b, k * 3, none⟩ = some (.int .i64 n) ∧ w'.cell? ⟨b, k * 3 + 1, none⟩ = some (.bool i) ∧ w'.cell? ⟨b, k * 3 + 2, none⟩ = some (.bool o)) (go_keep) (first | (go_at_call 98; go_must (go_fit (HBS.out _); rintro e w3 ⟨rfl, hb3⟩; (first | (have M3 := Lib.hid (S3.out.drew.step hb3); obtain ⟨⟨y0, y1⟩, y2, y3⟩ := M3.out.box; obtain ⟨z0, z1, z2⟩ := HCL.out _ M3.out; clear hb3) | (have M3 := Lib.hid ((S3.out.step (below_new W2 _)).drew.step hb3); have KB := Lib.hid ((Blk.new W2 _ _).drew.below hb3 (by simp)); obtain ⟨e0, e1, e2, e3, e4, e5⟩ := blkCells KB.out; obtain ⟨⟨y0, y1⟩, y2, y3⟩ := M3.out.box; obtain ⟨z0, z1, z2⟩ := HCL.out _ M3.out; clear hb3)))))
    all_goals
      go_wp2_with fail
      go_meet
      first
        | exact ⟨w3.heap.size, rfl, rfl, M3.out.step (below_new w3 _), Blk.new _ _ _, M3.out.2.2.2.lt⟩
        | exact ⟨W2.heap.size, rfl, rfl, ((M3.out.far BL.out TL.out (p := ⟨W2.heap.size, 0, none⟩) S3.out.2.2.2.lt _).far BL.out TL.out (p := ⟨W2.heap.size, 1, none⟩) S3.out.2.2.2.lt _).far BL.out TL.out (p := ⟨W2.heap.size, 2, none⟩) S3.out.2.2.2.lt _, blk_set3 KB.out _ _ _, S3.out.2.2.2.lt⟩
  obtain ⟨P, rfl, rfl, hM4, hK4, hP⟩ := hcut
  have M4 := Lib.hid hM4
  have K4 := Lib.hid hK4
  have HPL := Lib.hid hP
  clear hM4 hK4 hP c0 c1 x0 x1 p0 p1 p2 n0 n2 n4
  obtain ⟨⟨c0, c1⟩, x0, x1⟩ := M4.out.box
  have HS : Hid (∀ X, Below wc.heap.size wc X → X.cell? ⟨w.heap.size, 0, none⟩ = some (.slice (some ⟨b, 0, none⟩) bs.length c) ∧ X.cell? ⟨w.heap.size, 1, none⟩ = some (.slice (some ⟨t, 0, none⟩) ts.length c')) := Lib.hid fun X h => (M4.out.step h).box.1
  go_upto_region 6 with fail
  go_cut [8] (fun a8 wx => ∃ R g d g' d' : Nat, a8 = .pointer (some ⟨R, 0, none⟩) ∧ L8 w wx b c t c' bs ts (k : Int) s P #[.int .i64 Xn, .bool Xi, .bool Xo] R g d g' d')
  case first =>
    go_region_held_law (fun w' => w'.cell? ⟨w.heap.size, 0, none⟩ = some (.slice (some ⟨b, 0, none⟩) bs.length c) ∧ w'.cell? ⟨w.heap.size, 1, none⟩ = some (.slice (some ⟨t, 0, none⟩) ts.length c')) (first | exact HS.out _ (by simp (maxDischargeDepth := 12) [bsA, bsD, bsR]) | exact HS.out _ (by simp (maxDischargeDepth := 12) [bsA, bsD, b6.out]) | exact HS.out _ (by simp (maxDischargeDepth := 12) [bsA, bsD, b7.out]) | go_keep) (first | (refine step_app0 slBl rfl (.tmp 35) (.tmp 37) rfl _ wc.heap.size _ rfl (by simp (maxDischargeDepth := 12) [ne2n, ne2m, nbS, nbO, nbD]) (by omega) (bcells bs) rfl (bcells_length bs) (news_bl (M4.out.step (by simp (maxDischargeDepth := 12) [bsA, bsD, bsR])).2.1.2.1) (bcells_one bs) (by omega) (by decide) ?_; intro g6 d6 w6 ho6 hg6 hat6; have b6 := Lib.hid (bel_grown (w0 := wc) (by simp (maxDischargeDepth := 12) [bsA, bsD, bsR]) hg6 (by omega)); have M6 := Lib.hid (M4.out.step b6.out); have y0 := M6.out.box.1.1; have y1 := M6.out.box.1.2; have hk6 := Lib.hid (fun (P : Nat) (T : TypeId) (cs : Array Value) => @blk_grown _ _ _ P T cs hg6); have hs6 := Lib.hid hg6.size; have O6 := Lib.hid ho6; have A6 := Lib.hid hat6; clear ho6 hg6 hat6) | (refine step_app0 slInt rfl (.tmp 39) (.tmp 41) rfl _ wc.heap.size _ rfl (by simp (maxDischargeDepth := 12) [ne2n, ne2m, nbS, nbO, nbD, hk6.out]) (by have h3 := hs6.out; simp -failIfUnchanged at h3; omega) (ts.map (Value.int .i64)) rfl (by simp) (news_in (M6.out.step (by simp (maxDischargeDepth := 12) [bsA, bsD, bsR])).2.1.2.2.1) (ints_oneCell _ _) (by omega) (by decide) ?_; intro g7 d7 w7 ho7 hg7 hat7; have b7 := Lib.hid (bel_grown (w0 := wc) (by simp (maxDischargeDepth := 12) [bsA, bsD, b6.out]) hg7 (by have h3 := hs6.out; simp -failIfUnchanged at h3; omega)); have M7 := Lib.hid (M4.out.step b7.out); have y2 := M7.out.box.1.1; have y3 := M7.out.box.1.2; have hk7 := Lib.hid (fun (P : Nat) (T : TypeId) (cs : Array Value) => @blk_grown _ _ _ P T cs hg7); have O6b := Lib.hid (own_grown2 O6.out (by simp (maxDischargeDepth := 12) [bsA, bsD, bsR]) hg7 (by have h1 := A6.out; have h2 := OwnV.lt O6.out; have h3 := hs6.out; simp -failIfUnchanged at h1 h3; omega)); have O7 := Lib.hid ho7; clear ho7 hg7 hat7; (first | (have kC := Lib.hid (hk7.out wc.heap.size 68 #[.slice none 0 0, .slice none 0 0] (by simp (maxDischargeDepth := 12) [ne2n, ne2m, nbS, nbO, nbD, hk6.out]) (by have h3 := hs6.out; simp -failIfUnchanged at h3; omega)); have hC := Lib.hid (show wc.heap.size ≤ wc.heap.size by have h3 := hs6.out; simp -failIfUnchanged at h3; omega); have q0 : wc.heap.size ≠ w.heap.size := (by have h3 := hs6.out; have h4 := M4.out.2.2.2.lt; simp -failIfUnchanged at h3; omega); obtain ⟨v0, v1, f0, f1⟩ := blkCells2 kC.out) | (have kC := Lib.hid (hk7.out (wc.heap.size + 1) 68 #[.slice none 0 0, .slice none 0 0] (by simp (maxDischargeDepth := 12) [ne2n, ne2m, nbS, nbO, nbD, hk6.out]) (by have h3 := hs6.out; simp -failIfUnchanged at h3; omega)); have hC := Lib.hid (show wc.heap.size ≤ (wc.heap.size + 1) by have h3 := hs6.out; simp -failIfUnchanged at h3; omega); have q0 : (wc.heap.size + 1) ≠ w.heap.size := (by have h3 := hs6.out; have h4 := M4.out.2.2.2.lt; simp -failIfUnchanged at h3; omega); obtain ⟨v0, v1, f0, f1⟩ := blkCells2 kC.out) | (have kC := Lib.hid (hk7.out (wc.heap.size + 1 + 1) 68 #[.slice none 0 0, .slice none 0 0] (by simp (maxDischargeDepth := 12) [ne2n, ne2m, nbS, nbO, nbD, hk6.out]) (by have h3 := hs6.out; simp -failIfUnchanged at h3; omega)); have hC := Lib.hid (show wc.heap.size ≤ (wc.heap.size + 1 + 1) by have h3 := hs6.out; simp -failIfUnchanged at h3; omega); have q0 : (wc.heap.size + 1 + 1) ≠ w.heap.size := (by have h3 := hs6.out; have h4 := M4.out.2.2.2.lt; simp -failIfUnchanged at h3; omega); obtain ⟨v0, v1, f0, f1⟩ := blkCells2 kC.out) | (have kC := Lib.hid (hk7.out w6.heap.size 68 #[.slice none 0 0, .slice none 0 0] (by simp (maxDischargeDepth := 12) [ne2n, ne2m, nbS, nbO, nbD, hk6.out]) (by have h3 := hs6.out; simp -failIfUnchanged at h3; omega)); have hC := Lib.hid (show wc.heap.size ≤ w6.heap.size by have h3 := hs6.out; simp -failIfUnchanged at h3; omega); have q0 : w6.heap.size ≠ w.heap.size := (by have h3 := hs6.out; have h4 := M4.out.2.2.2.lt; simp -failIfUnchanged at h3; omega); obtain ⟨v0, v1, f0, f1⟩ := blkCells2 kC.out) | (have kC := Lib.hid (hk7.out (w6.heap.size + 1) 68 #[.slice none 0 0, .slice none 0 0] (by simp (maxDischargeDepth := 12) [ne2n, ne2m, nbS, nbO, nbD, hk6.out]) (by have h3 := hs6.out; simp -failIfUnchanged at h3; omega)); have hC := Lib.hid (show wc.heap.size ≤ (w6.heap.size + 1) by have h3 := hs6.out; simp -failIfUnchanged at h3; omega); have q0 : (w6.heap.size + 1) ≠ w.heap.size := (by have h3 := hs6.out; have h4 := M4.out.2.2.2.lt; simp -failIfUnchanged at h3; omega); obtain ⟨v0, v1, f0, f1⟩ := blkCells2 kC.out) | skip)))
    all_goals
      go_wp2_with fail
      go_meet
      first
        | exact ⟨_, _, _, _, _, rfl, l8_a M7.out (K4.out.below b7.out K4.out.lt) kC.out O6b.out O7.out BL.out TL.out HPL.out K4.out.lt hC.out⟩
        | exact ⟨_, _, _, _, _, rfl, l8_b M7.out (K4.out.below b7.out K4.out.lt) O6b.out O7.out HPL.out K4.out.lt⟩
  obtain ⟨R, g, d, g', d', rfl, hL⟩ := hcut
  have L := Lib.hid hL
  have N8 := Lib.hid (hL.turn BL.out TL.out KK.out (Xn, Xi, Xo))
  clear hL c0 c1 x0 x1 HS M4 K4 HPL
  have x0 := L.out.1.box.2.1
  obtain ⟨q0, q1, q2, _, _, _⟩ := blkCells L.out.2.1
  obtain ⟨r0, r1, _, _⟩ := blkCells2 L.out.2.2.1
  obtain ⟨s0, s1, s2, f0, f1, f2⟩ := OwnB.facts L.out.2.2.2.1.1 k KK.out
  go_upto_region 8 with fail
  clear x0 q0 q1 q2 r0 r1 s0 s1 s2 f0 f1 f2 L
  generalize hW8 : ((wc.setCell { block := g, off := k * 3 } (.int .i64 Xn)).setCell { block := g, off := k * 3 + 1 } (.bool Xi)).setCell { block := g, off := k * 3 + 2 } (.bool Xo) = W8 at *
  clear hW8
  obtain ⟨⟨c0, c1⟩, x0, x1⟩ := N8.out.1.box
  go_wp2_with (go_at_call 99; go_must (go_fit (HAT.out _ N8.out.1.2.1); rintro e w10 ⟨rfl, hb10⟩; have N10 := Lib.hid (N8.out.step hb10); obtain ⟨r0, r1, _, _⟩ := blkCells2 N10.out.2.1; obtain ⟨v0, v1, f0, f1⟩ := N10.out.1.zero; clear hb10 c0 c1 x0 x1))
  have F := store2 N10.out.1.1 (by omega) N10.out.1.2.2.2 (.slice none 0 0) (.slice none 0 0)
  exact bodyPost_ret (v := .tuple #[.agg #[.slice none 0 0, .slice none 0 0], .bool false]) (by have r0 := F.2.1; have r1 := F.2.2; simp [results, Try.results94, go_sem, r0, r1]) rfl ⟨rfl, F.1⟩
set_option maxHeartbeats 6400000 in
theorem l4Step_e (b c t c' k : Nat) (bs : List BV) (ts : List Int) (s : ByteArray) (w : World) (hn : bs.length ≤ 5) (hm : ts.length ≤ 5) (hk : k < bs.length) (hs : s.size ≤ 9223372036854775807) (hb : b < w.heap.size) (ht : t < w.heap.size) (ha : AtBl w b 0 bs) (hi : AtInts w t 0 ts) (hj : bstep (bs.getD k Z3) s = 3) (hs1 : s = ⟨#[101]⟩) (q : Nat) (hq : atF ts (2 * (k : Int)) ts.length = (q : Int)) (hql : q < ts.length) :
    Calls Try.prog 94 #[.agg #[.slice (some ⟨b, 0, none⟩) bs.length c, .slice (some ⟨t, 0, none⟩) ts.length c'], .agg #[.int .i64 (k : Int), .string s]] w (StepO w (some (bs.set k (st 3), ts.set q (2 * (k : Int) + 1)))) := by
  unfold StepO
  simp only
  have S3 := Lib.hid (Ls.new (c := c) (c' := c') (m := (k : Int)) (s := s) hb ht ha hi)
  have h6 := fun w => l6In_any (k : Int) 0 ((bs.length : Int) - 1) w
  rw [inB_true (show 0 ≤ (k : Int) ∧ (k : Int) ≤ (bs.length : Int) - 1 by omega)] at h6
  have H6 := Lib.hid h6
  have u0 : IntKind.i64.wrap ((bs.length : Int) - 1) = (bs.length : Int) - 1 := IntWalk.i64_in _ (by omega)
  have i1 : (k : Int) < (bs.length : Int) := by omega
  have KK := Lib.hid hk
  obtain ⟨⟨n, i, o⟩, hx⟩ : ∃ x, bs.getD k Z3 = x := ⟨_, rfl⟩
  rw [hx] at hj
  have hbs := fun w => specBstep_any n i o s w hs
  unfold BstV at hbs
  rw [bst_t hj (by omega), hj, dec_t (show 3 < 5 by omega)] at hbs
  obtain ⟨X, hX⟩ : ∃ X, st 3 = X := ⟨_, rfl⟩
  rw [hX] at hbs
  obtain ⟨Xn, Xi, Xo⟩ := X
  simp only [bv] at hbs
  have HST := Lib.hid hX
  clear hX
  have te := (str_e (s := s)).trans (dec_t hs1)
  have te' := te
  rw [lit_e] at te'
  have tl := (str_l (s := s)).trans (dec_f (by rw [hs1]; decide))
  have tl' := tl
  rw [lit_l] at tl'
  clear hs1
  have hat := fun W (h : LnAt W w.heap.size b c t c' bs ts) => l4At_any b c t c' bs ts (2 * (k : Int)) W (by omega) h.2.2.2.1 h.2.2.2.2 h.2.1 h.2.2.1
  obtain ⟨C, hC⟩ : ∃ C, atF ts (2 * (k : Int)) ts.length = C := ⟨_, rfl⟩
  rw [hC] at hat hq
  have HAT := Lib.hid hat
  have u1 : IntKind.i64.wrap (2 * (k : Int)) = 2 * (k : Int) := IntWalk.i64_in _ (by omega)
  have u2 : IntKind.i64.wrap (2 * (k : Int) + 1) = 2 * (k : Int) + 1 := IntWalk.i64_in _ (by omega)
  subst hq
  have HQL := Lib.hid hql
  have v9 := dec_f (show ¬ (q : Int) < 0 by omega)
  have v2 : (q : Int) < (ts.length : Int) := by omega
  clear hC hat
  have HX := Lib.hid hx
  have HBS := Lib.hid hbs
  have HCL : Hid (∀ W, Ls w W b c t c' bs ts (k : Int) s → W.cell? ⟨b, k * 3, none⟩ = some (.int .i64 n) ∧ W.cell? ⟨b, k * 3 + 1, none⟩ = some (.bool i) ∧ W.cell? ⟨b, k * 3 + 2, none⟩ = some (.bool o)) := Lib.hid fun W h => by
    have := h.2.1.2.1.at0 KK.out
    rw [HX.out] at this
    exact this
  have BL := Lib.hid hb
  have TL := Lib.hid ht
  clear hx hbs hj hk h6 ha hi hb ht
  go_enter Try.func94, Try.ntmps94
  go_wp2_with fail
  generalize ((w.alloc (.cells #[.slice (some ⟨b, 0, none⟩) bs.length c, .slice (some ⟨t, 0, none⟩) ts.length c'] 68)).alloc (.cells #[.int .i64 (k : Int), .string s] 74)).alloc (.cells #[.slice none 0 0, .slice none 0 0] 68) = W2 at *
  obtain ⟨⟨c0, c1⟩, x0, x1⟩ := S3.out.box
  obtain ⟨p0, p1, p2⟩ := HCL.out _ S3.out
  have n0 := World.new_ne W2 _ c0
  have n2 := World.new_ne W2 _ x0
  have n4 := World.new_ne W2 _ p0
  go_upto_region 3 with (go_at_call 65; go_must (go_fit (H6.out _); rintro e w9 ⟨rfl, rfl⟩))
  clear u0
  go_cut [6, 7] (fun a6 a7 wx => ∃ P : Nat, a6 = .pointer (some ⟨P, 0, none⟩) ∧ a7 = .bool true ∧ Ls w wx b c t c' bs ts (k : Int) s ∧ Blk wx P 59 #[.int .i64 Xn, .bool Xi, .bool Xo] ∧ w.heap.size + 2 < P)
  case first =>
    go_region_held3 (fun w' => w'.cell? ⟨w.heap.size, 0, none⟩ = some (.slice (some ⟨b, 0, none⟩) bs.length c) ∧ w'.cell? ⟨w.heap.size + 1, 0, none⟩ = some (.int .i64 (k : Int)) ∧ w'.cell? ⟨w.heap.size + 1, 1, none⟩ = some (.string s) ∧ w'.cell? ⟨b, k * 3, none⟩ = some (.int .i64 n) ∧ w'.cell? ⟨b, k * 3 + 1, none⟩ = some (.bool i) ∧ w'.cell? ⟨b, k * 3 + 2, none⟩ = some (.bool o)) (go_keep) (first | (go_at_call 98; go_must (go_fit (HBS.out _); rintro e w3 ⟨rfl, hb3⟩; (first | (have M3 := Lib.hid (S3.out.drew.step hb3); obtain ⟨⟨y0, y1⟩, y2, y3⟩ := M3.out.box; obtain ⟨z0, z1, z2⟩ := HCL.out _ M3.out; clear hb3) | (have M3 := Lib.hid ((S3.out.step (below_new W2 _)).drew.step hb3); have KB := Lib.hid ((Blk.new W2 _ _).drew.below hb3 (by simp)); obtain ⟨e0, e1, e2, e3, e4, e5⟩ := blkCells KB.out; obtain ⟨⟨y0, y1⟩, y2, y3⟩ := M3.out.box; obtain ⟨z0, z1, z2⟩ := HCL.out _ M3.out; clear hb3)))))
    all_goals
      go_wp2_with fail
      go_meet
      first
        | exact ⟨w3.heap.size, rfl, rfl, M3.out.step (below_new w3 _), Blk.new _ _ _, M3.out.2.2.2.lt⟩
        | exact ⟨W2.heap.size, rfl, rfl, ((M3.out.far BL.out TL.out (p := ⟨W2.heap.size, 0, none⟩) S3.out.2.2.2.lt _).far BL.out TL.out (p := ⟨W2.heap.size, 1, none⟩) S3.out.2.2.2.lt _).far BL.out TL.out (p := ⟨W2.heap.size, 2, none⟩) S3.out.2.2.2.lt _, blk_set3 KB.out _ _ _, S3.out.2.2.2.lt⟩
  obtain ⟨P, rfl, rfl, hM4, hK4, hP⟩ := hcut
  have M4 := Lib.hid hM4
  have K4 := Lib.hid hK4
  have HPL := Lib.hid hP
  clear hM4 hK4 hP c0 c1 x0 x1 p0 p1 p2 n0 n2 n4
  obtain ⟨⟨c0, c1⟩, x0, x1⟩ := M4.out.box
  have HS : Hid (∀ X, Below wc.heap.size wc X → X.cell? ⟨w.heap.size, 0, none⟩ = some (.slice (some ⟨b, 0, none⟩) bs.length c) ∧ X.cell? ⟨w.heap.size, 1, none⟩ = some (.slice (some ⟨t, 0, none⟩) ts.length c')) := Lib.hid fun X h => (M4.out.step h).box.1
  go_upto_region 6 with fail
  go_cut [8] (fun a8 wx => ∃ R g d g' d' : Nat, a8 = .pointer (some ⟨R, 0, none⟩) ∧ L8 w wx b c t c' bs ts (k : Int) s P #[.int .i64 Xn, .bool Xi, .bool Xo] R g d g' d')
  case first =>
    go_region_held_law (fun w' => w'.cell? ⟨w.heap.size, 0, none⟩ = some (.slice (some ⟨b, 0, none⟩) bs.length c) ∧ w'.cell? ⟨w.heap.size, 1, none⟩ = some (.slice (some ⟨t, 0, none⟩) ts.length c')) (first | exact HS.out _ (by simp (maxDischargeDepth := 12) [bsA, bsD, bsR]) | exact HS.out _ (by simp (maxDischargeDepth := 12) [bsA, bsD, b6.out]) | exact HS.out _ (by simp (maxDischargeDepth := 12) [bsA, bsD, b7.out]) | go_keep) (first | (refine step_app0 slBl rfl (.tmp 35) (.tmp 37) rfl _ wc.heap.size _ rfl (by simp (maxDischargeDepth := 12) [ne2n, ne2m, nbS, nbO, nbD]) (by omega) (bcells bs) rfl (bcells_length bs) (news_bl (M4.out.step (by simp (maxDischargeDepth := 12) [bsA, bsD, bsR])).2.1.2.1) (bcells_one bs) (by omega) (by decide) ?_; intro g6 d6 w6 ho6 hg6 hat6; have b6 := Lib.hid (bel_grown (w0 := wc) (by simp (maxDischargeDepth := 12) [bsA, bsD, bsR]) hg6 (by omega)); have M6 := Lib.hid (M4.out.step b6.out); have y0 := M6.out.box.1.1; have y1 := M6.out.box.1.2; have hk6 := Lib.hid (fun (P : Nat) (T : TypeId) (cs : Array Value) => @blk_grown _ _ _ P T cs hg6); have hs6 := Lib.hid hg6.size; have O6 := Lib.hid ho6; have A6 := Lib.hid hat6; clear ho6 hg6 hat6) | (refine step_app0 slInt rfl (.tmp 39) (.tmp 41) rfl _ wc.heap.size _ rfl (by simp (maxDischargeDepth := 12) [ne2n, ne2m, nbS, nbO, nbD, hk6.out]) (by have h3 := hs6.out; simp -failIfUnchanged at h3; omega) (ts.map (Value.int .i64)) rfl (by simp) (news_in (M6.out.step (by simp (maxDischargeDepth := 12) [bsA, bsD, bsR])).2.1.2.2.1) (ints_oneCell _ _) (by omega) (by decide) ?_; intro g7 d7 w7 ho7 hg7 hat7; have b7 := Lib.hid (bel_grown (w0 := wc) (by simp (maxDischargeDepth := 12) [bsA, bsD, b6.out]) hg7 (by have h3 := hs6.out; simp -failIfUnchanged at h3; omega)); have M7 := Lib.hid (M4.out.step b7.out); have y2 := M7.out.box.1.1; have y3 := M7.out.box.1.2; have hk7 := Lib.hid (fun (P : Nat) (T : TypeId) (cs : Array Value) => @blk_grown _ _ _ P T cs hg7); have O6b := Lib.hid (own_grown2 O6.out (by simp (maxDischargeDepth := 12) [bsA, bsD, bsR]) hg7 (by have h1 := A6.out; have h2 := OwnV.lt O6.out; have h3 := hs6.out; simp -failIfUnchanged at h1 h3; omega)); have O7 := Lib.hid ho7; clear ho7 hg7 hat7; (first | (have kC := Lib.hid (hk7.out wc.heap.size 68 #[.slice none 0 0, .slice none 0 0] (by simp (maxDischargeDepth := 12) [ne2n, ne2m, nbS, nbO, nbD, hk6.out]) (by have h3 := hs6.out; simp -failIfUnchanged at h3; omega)); have hC := Lib.hid (show wc.heap.size ≤ wc.heap.size by have h3 := hs6.out; simp -failIfUnchanged at h3; omega); have q0 : wc.heap.size ≠ w.heap.size := (by have h3 := hs6.out; have h4 := M4.out.2.2.2.lt; simp -failIfUnchanged at h3; omega); obtain ⟨v0, v1, f0, f1⟩ := blkCells2 kC.out) | (have kC := Lib.hid (hk7.out (wc.heap.size + 1) 68 #[.slice none 0 0, .slice none 0 0] (by simp (maxDischargeDepth := 12) [ne2n, ne2m, nbS, nbO, nbD, hk6.out]) (by have h3 := hs6.out; simp -failIfUnchanged at h3; omega)); have hC := Lib.hid (show wc.heap.size ≤ (wc.heap.size + 1) by have h3 := hs6.out; simp -failIfUnchanged at h3; omega); have q0 : (wc.heap.size + 1) ≠ w.heap.size := (by have h3 := hs6.out; have h4 := M4.out.2.2.2.lt; simp -failIfUnchanged at h3; omega); obtain ⟨v0, v1, f0, f1⟩ := blkCells2 kC.out) | (have kC := Lib.hid (hk7.out (wc.heap.size + 1 + 1) 68 #[.slice none 0 0, .slice none 0 0] (by simp (maxDischargeDepth := 12) [ne2n, ne2m, nbS, nbO, nbD, hk6.out]) (by have h3 := hs6.out; simp -failIfUnchanged at h3; omega)); have hC := Lib.hid (show wc.heap.size ≤ (wc.heap.size + 1 + 1) by have h3 := hs6.out; simp -failIfUnchanged at h3; omega); have q0 : (wc.heap.size + 1 + 1) ≠ w.heap.size := (by have h3 := hs6.out; have h4 := M4.out.2.2.2.lt; simp -failIfUnchanged at h3; omega); obtain ⟨v0, v1, f0, f1⟩ := blkCells2 kC.out) | (have kC := Lib.hid (hk7.out w6.heap.size 68 #[.slice none 0 0, .slice none 0 0] (by simp (maxDischargeDepth := 12) [ne2n, ne2m, nbS, nbO, nbD, hk6.out]) (by have h3 := hs6.out; simp -failIfUnchanged at h3; omega)); have hC := Lib.hid (show wc.heap.size ≤ w6.heap.size by have h3 := hs6.out; simp -failIfUnchanged at h3; omega); have q0 : w6.heap.size ≠ w.heap.size := (by have h3 := hs6.out; have h4 := M4.out.2.2.2.lt; simp -failIfUnchanged at h3; omega); obtain ⟨v0, v1, f0, f1⟩ := blkCells2 kC.out) | (have kC := Lib.hid (hk7.out (w6.heap.size + 1) 68 #[.slice none 0 0, .slice none 0 0] (by simp (maxDischargeDepth := 12) [ne2n, ne2m, nbS, nbO, nbD, hk6.out]) (by have h3 := hs6.out; simp -failIfUnchanged at h3; omega)); have hC := Lib.hid (show wc.heap.size ≤ (w6.heap.size + 1) by have h3 := hs6.out; simp -failIfUnchanged at h3; omega); have q0 : (w6.heap.size + 1) ≠ w.heap.size := (by have h3 := hs6.out; have h4 := M4.out.2.2.2.lt; simp -failIfUnchanged at h3; omega); obtain ⟨v0, v1, f0, f1⟩ := blkCells2 kC.out) | skip)))
    all_goals
      go_wp2_with fail
      go_meet
      first
        | exact ⟨_, _, _, _, _, rfl, l8_a M7.out (K4.out.below b7.out K4.out.lt) kC.out O6b.out O7.out BL.out TL.out HPL.out K4.out.lt hC.out⟩
        | exact ⟨_, _, _, _, _, rfl, l8_b M7.out (K4.out.below b7.out K4.out.lt) O6b.out O7.out HPL.out K4.out.lt⟩
  obtain ⟨R, g, d, g', d', rfl, hL⟩ := hcut
  have L := Lib.hid hL
  have N8 := Lib.hid (hL.turn BL.out TL.out KK.out (Xn, Xi, Xo))
  clear hL c0 c1 x0 x1 HS M4 K4 HPL
  have x0 := L.out.1.box.2.1
  obtain ⟨q0, q1, q2, _, _, _⟩ := blkCells L.out.2.1
  obtain ⟨r0, r1, _, _⟩ := blkCells2 L.out.2.2.1
  obtain ⟨s0, s1, s2, f0, f1, f2⟩ := OwnB.facts L.out.2.2.2.1.1 k KK.out
  go_upto_region 8 with fail
  clear x0 q0 q1 q2 r0 r1 s0 s1 s2 f0 f1 f2 L
  generalize hW8 : ((wc.setCell { block := g, off := k * 3 } (.int .i64 Xn)).setCell { block := g, off := k * 3 + 1 } (.bool Xi)).setCell { block := g, off := k * 3 + 2 } (.bool Xo) = W8 at *
  clear hW8
  obtain ⟨⟨c0, c1⟩, x0, x1⟩ := N8.out.1.box
  go_wp2_with (go_at_call 99; go_must (go_fit (HAT.out _ N8.out.1.2.1); rintro e w10 ⟨rfl, hb10⟩; have N10 := Lib.hid (N8.out.step hb10); obtain ⟨r0, r1, _, _⟩ := blkCells2 N10.out.2.1; obtain ⟨v0, v1, f0, f1⟩ := N10.out.1.zero; have z0 := N10.out.2.2.1.2.1.at.at0 HQL.out; have z1 := OwnV.frozen N10.out.2.2.1.2.1 q; have N11 := Lib.hid (N10.out.train BL.out TL.out q (2 * (k : Int) + 1)); obtain ⟨r2, r3, _, _⟩ := blkCells2 N11.out.2.1; obtain ⟨v3, v4, f3, f4⟩ := N11.out.1.zero; clear hb10 c0 c1 x0 x1))
  have F := store2 N11.out.1.1 (by omega) N11.out.1.2.2.2 (.slice (some ⟨g, 0, none⟩) bs.length d) (.slice (some ⟨g', 0, none⟩) ts.length d')
  have G := N11.out.fin (.slice (some ⟨g, 0, none⟩) bs.length d) (.slice (some ⟨g', 0, none⟩) ts.length d')
  exact bodyPost_ret (v := .tuple #[.agg #[.slice (some ⟨g, 0, none⟩) bs.length d, .slice (some ⟨g', 0, none⟩) ts.length d'], .bool true]) (by have r0 := F.2.1; have r1 := F.2.2; simp [results, Try.results94, go_sem, r0, r1]) rfl ⟨g, d, g', d', by simp only [List.length_set], by rw [HST.out]; exact G.1, G.2.1, G.2.2, F.1⟩
end Go.Proofs.Ytebejpaghajhkaa
