/-
  Lines: LineStep of the reference, all ways. No condition.
-/
import Derived.Test.YtebejpaghajhkaaLn14a
import Derived.Test.YtebejpaghajhkaaLn14b
import Derived.Test.YtebejpaghajhkaaLn14c
namespace Go.Proofs.Ytebejpaghajhkaa
open Go.RowKit
set_option linter.unusedVariables false
set_option linter.unusedSimpArgs false

set_option maxHeartbeats 1600000 in
theorem l4Step_range (b c t c' : Nat) (bs : List BV) (ts : List Int) (m : Int) (s : ByteArray) (w : World) (hn : bs.length ≤ 5) (hb : b < w.heap.size) (ht : t < w.heap.size) (ha : AtBl w b 0 bs) (hi : AtInts w t 0 ts) (hm : m < 0 ∨ (bs.length : Int) ≤ m) :
    Calls Try.prog 94 #[.agg #[.slice (some ⟨b, 0, none⟩) bs.length c, .slice (some ⟨t, 0, none⟩) ts.length c'], .agg #[.int .i64 m, .string s]] w (StepO w none) := by
  unfold StepO
  simp only
  have S3 := Lib.hid (Ls.new (c := c) (c' := c') (m := m) (s := s) hb ht ha hi)
  have h6 := fun w => l6In_any m 0 ((bs.length : Int) - 1) w
  rw [inB_false (show m < 0 ∨ (bs.length : Int) - 1 < m by omega)] at h6
  have H6 := Lib.hid h6
  have u0 : IntKind.i64.wrap ((bs.length : Int) - 1) = (bs.length : Int) - 1 := IntWalk.i64_in _ (by omega)
  clear h6 ha hi hb ht hm
  go_enter Try.func94, Try.ntmps94
  go_wp2_with fail
  generalize ((w.alloc (.cells #[.slice (some ⟨b, 0, none⟩) bs.length c, .slice (some ⟨t, 0, none⟩) ts.length c'] 68)).alloc (.cells #[.int .i64 m, .string s] 74)).alloc (.cells #[.slice none 0 0, .slice none 0 0] 68) = W2 at *
  obtain ⟨v0, v1, f0, f1⟩ := S3.out.zero
  go_wp2_with (go_at_call 65; go_must (go_fit (H6.out _); rintro e w9 ⟨rfl, rfl⟩))
  have F := store2 S3.out.1 (by omega) S3.out.2.2.2 (.slice none 0 0) (.slice none 0 0)
  exact bodyPost_ret (v := .tuple #[.agg #[.slice none 0 0, .slice none 0 0], .bool false]) (by have r0 := F.2.1; have r1 := F.2.2; simp [results, Try.results94, go_sem, r0, r1]) rfl ⟨rfl, F.1⟩
theorem l4Step_any (b c t c' : Nat) (bs : List BV) (ts : List Int) (m : Int) (s : ByteArray) (w : World) (hn : bs.length ≤ 5) (hm : ts.length ≤ 5) (hs : s.size ≤ 9223372036854775807) (hb : b < w.heap.size) (ht : t < w.heap.size) (ha : AtBl w b 0 bs) (hi : AtInts w t 0 ts) :
    Calls Try.prog 94 #[.agg #[.slice (some ⟨b, 0, none⟩) bs.length c, .slice (some ⟨t, 0, none⟩) ts.length c'], .agg #[.int .i64 m, .string s]] w (StepO w (stepI bs ts m s)) := by
  by_cases hmr : 0 ≤ m ∧ m < (bs.length : Int)
  · obtain ⟨k, rfl⟩ : ∃ k : Nat, m = (k : Int) := ⟨m.toNat, by omega⟩
    have hk : k < bs.length := by omega
    unfold stepI
    rw [if_pos hmr, Int.toNat_natCast]
    unfold stepU
    obtain ⟨j, hj⟩ : ∃ j, bstep (bs.getD k Z3) s = j := ⟨_, rfl⟩
    rw [hj]
    by_cases h5 : j = 5
    · rw [if_pos h5]
      exact l4Step_no5 b c t c' k bs ts s w hn hm hk hs hb ht ha hi (hj.trans h5)
    · rw [if_neg h5]
      rcases bstep_ways hj h5 with ⟨_, h1, rfl⟩ | ⟨_, h1, rfl⟩ | ⟨_, h1, rfl⟩ | ⟨_, h1, rfl⟩ | ⟨_, h1, rfl⟩ | ⟨_, h1, rfl⟩ | ⟨_, h1, rfl⟩
      case inl | inr.inl | inr.inr.inl | inr.inr.inr.inl | inr.inr.inr.inr.inr.inr =>
        rw [if_neg (by omega), if_neg (by omega)]
        exact l4Step_plain b c t c' k bs ts s w hn hm hk hs hb ht ha hi _ (by omega) hj (by rw [h1]; decide) (by rw [h1]; decide)
      case inr.inr.inr.inr.inl =>
        rw [if_pos rfl]
        by_cases hat : atF ts (2 * (k : Int)) ts.length < 0
        · rw [if_pos hat]
          exact l4Step_e_no b c t c' k bs ts s w hn hm hk hs hb ht ha hi hj h1 hat
        · rw [if_neg hat]
          have hsp := atF_spec (show 0 ≤ atF ts (2 * (k : Int)) ts.length by omega)
          exact l4Step_e b c t c' k bs ts s w hn hm hk hs hb ht ha hi hj h1 _ (Int.toNat_of_nonneg (show 0 ≤ atF ts (2 * (k : Int)) ts.length by omega)).symm hsp.1
      case inr.inr.inr.inr.inr.inl =>
        rw [if_neg (by omega), if_pos rfl]
        by_cases hat : atF ts (2 * (k : Int) + 1) ts.length < 0
        · rw [if_pos hat]
          exact l4Step_l_no b c t c' k bs ts s w hn hm hk hs hb ht ha hi hj h1 hat
        · rw [if_neg hat]
          have hsp := atF_spec (show 0 ≤ atF ts (2 * (k : Int) + 1) ts.length by omega)
          have hml := l4Step_l b c t c' k bs ts s w hn hm hk hs hb ht ha hi hj h1 _ (Int.toNat_of_nonneg (show 0 ≤ atF ts (2 * (k : Int) + 1) ts.length by omega)).symm hsp.1
          rw [show 2 * (k : Int) + 1 + 1 = 2 * (k : Int) + 2 by omega] at hml
          exact hml
  · unfold stepI
    rw [if_neg hmr]
    exact l4Step_range b c t c' bs ts m s w hn hb ht ha hi (by omega)

set_option maxHeartbeats 1600000 in
theorem specStep_any (b c t c' : Nat) (bs : List BV) (ts : List Int) (m : Int) (s : ByteArray) (w : World) (hn : bs.length ≤ 1048576) (hm : ts.length ≤ 1048576) (hs : s.size ≤ 9223372036854775807) (hb : b < w.heap.size) (ht : t < w.heap.size) (ha : AtBl w b 0 bs) (hi : AtInts w t 0 ts) :
    Calls Try.prog 81 #[.agg #[.slice (some ⟨b, 0, none⟩) bs.length c, .slice (some ⟨t, 0, none⟩) ts.length c'], .agg #[.int .i64 m, .string s]] w (StepO w (stepV bs ts m s)) := by
  have S3 := Lib.hid (Ls.new (c := c) (c' := c') (m := m) (s := s) hb ht ha hi)
  have hvl := fun W (h : Ls w W b c t c' bs ts m s) => specValid_any b c t c' bs ts W hn hm h.2.1.2.2.2.1 h.2.1.2.2.2.2 h.2.1.2.1 h.2.1.2.2.1
  clear ha hi hb ht
  by_cases hV : lineB bs ts = true
  · obtain ⟨h1, h2, h3, _⟩ := lineB_iff.1 hV
    rw [hV] at hvl
    have HVL := Lib.hid hvl
    unfold stepV
    rw [if_pos hV]
    have hl4 := fun W (h : Ls w W b c t c' bs ts m s) => l4Step_any b c t c' bs ts m s W h1.2 h3 hs h.2.1.2.2.2.1 h.2.1.2.2.2.2 h.2.1.2.1 h.2.1.2.2.1
    obtain ⟨o, ho⟩ : ∃ o, stepI bs ts m s = o := ⟨_, rfl⟩
    rw [ho] at hl4 ⊢
    have HL4 := Lib.hid hl4
    clear hV hvl hl4 ho h2
    cases o
    case none =>
      unfold StepO at HL4 ⊢
      simp only at HL4 ⊢
      go_enter Try.func81, Try.ntmps81
      go_wp2_with fail
      generalize ((w.alloc (.cells #[.slice (some ⟨b, 0, none⟩) bs.length c, .slice (some ⟨t, 0, none⟩) ts.length c'] 68)).alloc (.cells #[.int .i64 m, .string s] 74)).alloc (.cells #[.slice none 0 0, .slice none 0 0] 68) = W2 at *
      refine (HVL.out _ S3.out).mono ?_
      rintro e w4 ⟨rfl, hb4⟩
      have S4 := Lib.hid (S3.out.step hb4)
      obtain ⟨⟨c0, c1⟩, x0, x1⟩ := S4.out.box
      clear hb4
      go_wp2_with fail
      refine (HL4.out _ S4.out).mono ?_
      rintro e w5 ⟨rfl, hb5⟩
      have S5 := Lib.hid (S4.out.step hb5)
      obtain ⟨v0, v1, f0, f1⟩ := S5.out.zero
      clear hb5
      go_wp2_with fail
      have F := store2 S5.out.1 (by omega) S5.out.2.2.2 (.slice none 0 0) (.slice none 0 0)
      exact bodyPost_ret (v := .tuple #[.agg #[.slice none 0 0, .slice none 0 0], .bool false]) (by have r0 := F.2.1; have r1 := F.2.2; simp [results, Try.results81, go_sem, r0, r1]) rfl ⟨rfl, F.1⟩
    case some p =>
      obtain ⟨bs', ts'⟩ := p
      unfold StepO at HL4 ⊢
      simp only at HL4 ⊢
      go_enter Try.func81, Try.ntmps81
      go_wp2_with fail
      generalize ((w.alloc (.cells #[.slice (some ⟨b, 0, none⟩) bs.length c, .slice (some ⟨t, 0, none⟩) ts.length c'] 68)).alloc (.cells #[.int .i64 m, .string s] 74)).alloc (.cells #[.slice none 0 0, .slice none 0 0] 68) = W2 at *
      refine (HVL.out _ S3.out).mono ?_
      rintro e w4 ⟨rfl, hb4⟩
      have S4 := Lib.hid (S3.out.step hb4)
      obtain ⟨⟨c0, c1⟩, x0, x1⟩ := S4.out.box
      clear hb4
      go_wp2_with fail
      refine (HL4.out _ S4.out).mono ?_
      rintro e w5 ⟨g, d, g', d', rfl, ho1, ho2, hne, hb5⟩
      have S5 := Lib.hid (S4.out.step hb5)
      have O5 : Hid (LnO w5 w4.heap.size g d g' d' bs' ts') := Lib.hid ⟨ho1, ho2, hne⟩
      obtain ⟨v0, v1, f0, f1⟩ := S5.out.zero
      clear hb5 ho1 ho2 hne
      go_wp2_with fail
      have F := store2 S5.out.1 (by omega) S5.out.2.2.2 (.slice (some ⟨g, 0, none⟩) bs'.length d) (.slice (some ⟨g', 0, none⟩) ts'.length d')
      have g1 := O5.out.1.le
      have g2 := O5.out.2.1.le
      have g3 := S4.out.2.2.2.lt
      have g4 := S4.out.1.size
      have G := (O5.out.far (p := ⟨w.heap.size + 1 + 1, 0, none⟩) (by show g ≠ w.heap.size + 1 + 1; omega) (by show g' ≠ w.heap.size + 1 + 1; omega) (.slice (some ⟨g, 0, none⟩) bs'.length d)).far (p := ⟨w.heap.size + 1 + 1, 1, none⟩) (by show g ≠ w.heap.size + 1 + 1; omega) (by show g' ≠ w.heap.size + 1 + 1; omega) (.slice (some ⟨g', 0, none⟩) ts'.length d')
      exact bodyPost_ret (v := .tuple #[.agg #[.slice (some ⟨g, 0, none⟩) bs'.length d, .slice (some ⟨g', 0, none⟩) ts'.length d'], .bool true]) (by have r0 := F.2.1; have r1 := F.2.2; simp [results, Try.results81, go_sem, r0, r1]) rfl ⟨g, d, g', d', rfl, OwnV.mono G.1 (by omega), OwnV.mono G.2.1 (by omega), G.2.2, F.1⟩
  · have hV' : lineB bs ts = false := by simpa using hV
    rw [hV'] at hvl
    have HVL := Lib.hid hvl
    unfold stepV
    rw [if_neg hV]
    unfold StepO
    simp only
    clear hV hV' hvl
    go_enter Try.func81, Try.ntmps81
    go_wp2_with fail
    generalize ((w.alloc (.cells #[.slice (some ⟨b, 0, none⟩) bs.length c, .slice (some ⟨t, 0, none⟩) ts.length c'] 68)).alloc (.cells #[.int .i64 m, .string s] 74)).alloc (.cells #[.slice none 0 0, .slice none 0 0] 68) = W2 at *
    refine (HVL.out _ S3.out).mono ?_
    rintro e w4 ⟨rfl, hb4⟩
    have S4 := Lib.hid (S3.out.step hb4)
    obtain ⟨v0, v1, f0, f1⟩ := S4.out.zero
    clear hb4
    go_wp2_with fail
    have F := store2 S4.out.1 (by omega) S4.out.2.2.2 (.slice none 0 0) (.slice none 0 0)
    exact bodyPost_ret (v := .tuple #[.agg #[.slice none 0 0, .slice none 0 0], .bool false]) (by have r0 := F.2.1; have r1 := F.2.2; simp [results, Try.results81, go_sem, r0, r1]) rfl ⟨rfl, F.1⟩
end Go.Proofs.Ytebejpaghajhkaa
