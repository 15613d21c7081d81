/-
  Registers' draws: some notes (l92Notes). No condition.
-/
import Derived.Test.YtebejpaghajhkaaRg22
import Derived.Test.YtebejpaghajhkaaRg2
import Derived.Test.YtebejpaghajhkaaLn14
namespace Go.Proofs.Ytebejpaghajhkaa
open Go.RowKit
set_option linter.unusedVariables false
set_option linter.unusedSimpArgs false

/-- Bounds of drawn notes. -/
def BdN (ns : List NV) : Prop := ∀ k, k < ns.length → (-1 ≤ (ns.getD k Z2).1 ∧ (ns.getD k Z2).1 ≤ 2001) ∧ (ns.getD k Z2).2.size ≤ 2
theorem BdN.nil : BdN [] := fun k hk => absurd hk (by simp)
theorem BdN.snoc {ns : List NV} {x : NV} (h : BdN ns) (hx : (-1 ≤ x.1 ∧ x.1 ≤ 2001) ∧ x.2.size ≤ 2) : BdN (ns ++ [x]) := by
  intro k hk
  simp only [List.length_append, List.length_cons, List.length_nil] at hk
  by_cases e : k < ns.length
  · rw [getD_snoc e]; exact h k e
  · have : k = ns.length := by omega
    subst this
    rw [getD_snoc_last]; exact hx
theorem BdN.set0 {ns : List NV} {x : NV} (h : BdN ns) (hx : (-1 ≤ x.1 ∧ x.1 ≤ 2001) ∧ x.2.size ≤ 2) : BdN (ns.set 0 x) := by
  intro k hk
  simp only [List.length_set] at hk
  by_cases e : k = 0
  · subst e
    have : (ns.set 0 x).getD 0 Z2 = x := by simp [List.getD, hk]
    rw [this]; exact hx
  · have : (ns.set 0 x).getD k Z2 = ns.getD k Z2 := by simp [List.getD, List.getElem?_set, show ¬ 0 = k by omega]
    rw [this]; exact h k hk
/-- Some notes, drawn. -/
def SomeNs (w : World) (base R p : Nat) (e : Ending) (w' : World) : Prop := ∃ (ns : List NV) (g c q : Nat), e = .returned (.slice (some ⟨g, 0, none⟩) ns.length c) ∧ OwnN w' w.heap.size g c ns ∧ BdN ns ∧ ns.length ≤ 33 ∧ q ≤ p + 90 ∧ Rdr w' base R q ∧ w.grownBy w' (some R)
/-- The reader, the notes so far. -/
def Nm (w W : World) (base R q g c : Nat) (ns : List NV) : Prop := w.grownBy W (some R) ∧ Rdr W base R q ∧ OwnN W w.heap.size g c ns ∧ R < w.heap.size
theorem nrdr_ne {W : World} {base R q B g c : Nat} {ns : List NV} (h : Rdr W base R q) (k : OwnN W B g c ns) : R ≠ g := by
  obtain ⟨A, m, d, _, _, hk, _⟩ := h
  exact blk_own_ne hk k (by decide)
section
variable {w W W' : World} {base R q g c : Nat} {ns : List NV}
theorem Nm.step (k : Nm w W base R q g c ns) (b : Below W.heap.size W W') : Nm w W' base R q g c ns := ⟨gbB k.1 b, rdB k.2.1 b, k.2.2.1.below b k.2.2.1.lt, k.2.2.2⟩
theorem Nm.pick {q' : Nat} (k : Nm w W base R q g c ns) (b : W.grownBy W' (some R)) (hr : Rdr W' base R q') : Nm w W' base R q' g c ns :=
  ⟨grownBy_trans k.1 b, hr, OwnV.grown k.2.2.1 b (by have := nrdr_ne k.2.1 k.2.2.1; intro e; injection e; omega), k.2.2.2⟩
theorem Nm.app {g' c' : Nat} {x : NV} (k : Nm w W base R q g c ns) (b : W.grownBy W' (some g)) (o : OwnNm W' w.heap.size g' c' (ns.length + 1) (ns ++ [x])) : Nm w W' base R q g' c' (ns ++ [x]) := by
  obtain ⟨h1, h2, h3, h4⟩ := k
  have n4 := h3.le
  exact ⟨gbG h1 b n4, h2.keep fun j hj => b.block j (by have := h2.lt; omega) (by intro e; injection e; omega), o.own, h4⟩
theorem Nm.put0 (k : Nm w W base R q g c ns) (h0 : 0 < ns.length) (m : Int) : Nm w (W.setCell ⟨g, 0, none⟩ (.int .i64 m)) base R q g c (ns.set 0 (m, (ns.getD 0 Z2).2)) := by
  obtain ⟨h1, h2, h3, h4⟩ := k
  have n4 := h3.le
  refine ⟨gbS h1 n4 _, rdS h2 (by omega) _, ?_, h4⟩
  have e : ncells (ns.set 0 (m, (ns.getD 0 Z2).2)) = (ncells ns).set 0 (.int .i64 m) := by
    cases ns with
    | nil => simp at h0
    | cons x xs => simp [ncells]
  unfold OwnN OwnNm
  rw [e, List.length_set]
  exact OwnV.store h3 0 (.int .i64 m)
theorem Nm.put1 (k : Nm w W base R q g c ns) (h0 : 0 < ns.length) (s : ByteArray) : Nm w (W.setCell ⟨g, 1, none⟩ (.string s)) base R q g c (ns.set 0 ((ns.getD 0 Z2).1, s)) := by
  obtain ⟨h1, h2, h3, h4⟩ := k
  have n4 := h3.le
  refine ⟨gbS h1 n4 _, rdS h2 (by omega) _, ?_, h4⟩
  have e : ncells (ns.set 0 ((ns.getD 0 Z2).1, s)) = (ncells ns).set 1 (.string s) := by
    cases ns with
    | nil => simp at h0
    | cons x xs => simp [ncells]
  unfold OwnN OwnNm
  rw [e, List.length_set]
  exact OwnV.store h3 1 (.string s)
end
set_option maxHeartbeats 6400000 in
theorem l92Notes_any (base R p : Nat) (w : World) (hp : p ≤ 70000) (hr : Rdr w base R p) :
    Calls Try.prog 77 #[.pointer (some ⟨R, 0, none⟩)] w (SomeNs w base R p) := by
  have H0 := Lib.hid hr
  clear hr
  go_enter Try.func77, Try.ntmps77
  go_wp2_with fail
  refine (l91Broken_any base R p _ (by omega) H0.out).mono ?_
  rintro e w1 ⟨S, q, rfl, hS, hq, hr1, hg1⟩
  have M2 : Hid (Nm w (w1.alloc (.cells #[] 48)) base R q w1.heap.size 0 []) := Lib.hid ⟨gbA hg1, rdA hr1, OwnV.mono (ownNm_empty w1 w1.heap.size (Nat.le_refl _)) hg1.size, H0.out.lt⟩
  clear hr1 hg1 H0
  go_upto_region 3 with fail
  generalize w1.alloc (.cells #[] 48) = W2 at *
  generalize w1.heap.size = g0 at *
  go_wp2_with fail
  refine (pick_any base R q 60 _ (by omega) (by omega) M2.out.2.1).mono ?_
  rintro e w3 ⟨x0, rfl, hx0, hr3, hg3⟩
  have hx60 : x0 < 60 := by have := hx0 (by omega); omega
  have M3 := Lib.hid (M2.out.pick hg3 hr3)
  clear hr3 hg3 M2 hx0
  go_wp2_with fail
  go_loopw [4, 5, 6] (fun o t i wr => ∃ (k x : Nat) (ns : List NV) (g c : Nat), k ≤ S.size ∧ i = .int .i64 k ∧ t = .int .i64 x ∧ o = .slice (some ⟨g, 0, none⟩) ns.length c ∧ ns.length = k ∧ x ≤ 59 + 3 * k ∧ BdN ns ∧ Nm w wr base R (q + 1 + k) g c ns) (fun _ _ i _ => S.size - (intOf i).toNat)
  case atStart => exact ⟨0, x0, [], g0, 0, by omega, rfl, rfl, rfl, rfl, by omega, BdN.nil, M3.out⟩
  case round =>
    clear M3
    obtain ⟨k, x, ns, g, c, hk, rfl, rfl, rfl, hnl, hx, hbd, hM⟩ := hrel
    have M4 := Lib.hid hM
    have BD := Lib.hid hbd
    have HNL := Lib.hid hnl
    have hn33 : ns.length ≤ 33 := by omega
    clear hM hbd hnl
    by_cases hlt : k < S.size
    · have t0 := dec_t (show (k : Int) < (S.size : Int) by omega)
      have hk1 : k + 1 ≤ S.size := hlt
      go_wp2_with fail
      refine (pick_any base R (q + 1 + k) 4 _ (by omega) (by omega) M4.out.2.1).mono ?_
      rintro e w5 ⟨y, rfl, hy, hr5, hg5⟩
      have hy4 : y < 4 := by have := hy (by omega); omega
      have M5 := Lib.hid (M4.out.pick hg5 hr5)
      clear hr5 hg5 M4 hy
      have hex := ext1 hlt
      obtain ⟨s, hs⟩ : ∃ s, S.extract k (k + 1) = s := ⟨_, rfl⟩
      rw [hs] at hex
      have HEX := Lib.hid hex
      have i1 : (k : Int) + 1 ≤ (S.size : Int) := by omega
      have i4 : (0 : Int) ≤ (k : Int) := by omega
      have i5 : (k : Int) ≤ (k : Int) + 1 := by omega
      have i6 : IntKind.i64.wrap ((k : Int) + 1) = (k : Int) + 1 := IntWalk.i64_in _ (by omega)
      have i7 : IntKind.i64.wrap ((x : Int) + (y : Int)) = (x : Int) + (y : Int) := IntWalk.i64_in _ (by omega)
      clear hex hlt
      go_wp2_with (at_builtin; refine wpList_app1 slNt rfl (.tmp 22) (.tmp 30) rfl _ rfl M5.out.2.2.1 rfl rfl (by simp [Value.oneCell']) (by unfold maxLen; omega) (by omega) ?_; intro g9 c9 w9 hown9 hg9 hat9)
      have M9 := Lib.hid (M5.out.app hg9 (x := ((x : Int) + (y : Int), s)) (g' := g9) (c' := c9) (by unfold OwnNm; rw [ncells_app]; simpa [ncells] using hown9))
      clear hown9 hg9 hat9 M5
      go_roundw
      case rel => exact ⟨k + 1, x + y, ns ++ [((x : Int) + (y : Int), s)], g9, c9, hk1, by go_num, by congr 1, by simp, by simp [HNL.out], by omega, BD.out.snoc ⟨by simp only []; omega, by show s.size ≤ 2; rw [HEX.out]; omega⟩, M9.out⟩
      case measure => simp [intOf]; omega
    · obtain rfl : k = S.size := by omega
      have t0 := dec_f (show ¬ (S.size : Int) < (S.size : Int) by omega)
      clear hlt
      by_cases h0 : ns.length = 0
      · have t1 := dec_f (show ¬ (0 : Int) < (ns.length : Int) by omega)
        have t1n := dec_f (show ¬ 0 < ns.length by omega)
        clear h0
        go_wp2_with fail
        go_ret
        exact ⟨ns, g, c, q + 1 + S.size, rfl, M4.out.2.2.1, BD.out, hn33, by omega, M4.out.2.1, M4.out.1⟩
      · have h0p : 0 < ns.length := by omega
        have t1 := dec_t (show (0 : Int) < (ns.length : Int) by omega)
        have t1n := dec_t h0p
        have b0 := BD.out 0 h0p
        clear h0
        go_wp2_with fail
        refine (pick_any base R (q + 1 + S.size) 40 _ (by omega) (by omega) M4.out.2.1).mono ?_
        rintro e w5 ⟨y, rfl, _, hr5, hg5⟩
        have M5 := Lib.hid (M4.out.pick hg5 hr5)
        clear hr5 hg5 M4
        by_cases hy0 : y = 0
        · subst hy0
          have M6 : Hid (Nm w (w5.alloc (.cells #[.int .i64 (-1), .int .i64 2001] 3)) base R (q + 1 + S.size + 1) g c ns) := Lib.hid (M5.out.step (below_new _ _))
          have K6 : Hid (Blk (w5.alloc (.cells #[.int .i64 (-1), .int .i64 2001] 3)) w5.heap.size 3 #[.int .i64 (-1), .int .i64 2001]) := Lib.hid (Blk.new _ _ _)
          have NR : Hid (w5.heap.size ≠ R) := Lib.hid (by have := M5.out.2.1.lt; omega)
          have HPK := Lib.hid (pick_any base R (q + 1 + S.size + 1) 2 _ (by omega) (by omega) M6.out.2.1)
          clear M5
          go_wp2_with fail
          refine HPK.out.mono ?_
          rintro e w7 ⟨z, rfl, hz, hr7, hg7⟩
          have hz2 : z < 2 := by have := hz (by omega); omega
          have M7 := Lib.hid (M6.out.pick hg7 hr7)
          have K7 := Lib.hid (blkG hg7 K6.out NR.out)
          clear hr7 hg7 hz M6 K6 HPK
          generalize w5.heap.size = P at *
          obtain ⟨c0, c1, _, _⟩ := blkCells2 K7.out
          obtain ⟨f0, f1, z0, z1⟩ := M7.out.2.2.1.facts 0 h0p
          simp only [Nat.zero_mul, Nat.zero_add] at f0 f1 z0 z1
          rcases (show z = 0 ∨ z = 1 by omega) with rfl | rfl
          · have M8 := Lib.hid (M7.out.put0 h0p (-1))
            go_wp2_with fail
            go_ret
            exact ⟨ns.set 0 (-1, (ns.getD 0 Z2).2), g, c, q + 1 + S.size + 1 + 1, by rw [List.length_set]; rfl, M8.out.2.2.1, BD.out.set0 ⟨by simp only []; omega, b0.2⟩, by rw [List.length_set]; omega, by omega, M8.out.2.1, M8.out.1⟩
          · have M8 := Lib.hid (M7.out.put0 h0p 2001)
            go_wp2_with fail
            go_ret
            exact ⟨ns.set 0 (2001, (ns.getD 0 Z2).2), g, c, q + 1 + S.size + 1 + 1, by rw [List.length_set]; rfl, M8.out.2.2.1, BD.out.set0 ⟨by simp only []; omega, b0.2⟩, by rw [List.length_set]; omega, by omega, M8.out.2.1, M8.out.1⟩
        · have u0 := beq_f (show (y : Int) ≠ 0 by omega)
          have u0n : (y == 0) = false := by simpa using hy0
          by_cases hy1 : y = 1
          · subst hy1
            have hof := of_any base R (q + 1 + S.size + 1) w5.heap.size [⟨#[]⟩, ⟨#[120]⟩, ⟨#[111, 97]⟩] _ (by omega) (rdA (o := .cells #[.string ⟨#[]⟩, .string ⟨#[120]⟩, .string ⟨#[111, 97]⟩] 9) M5.out.2.1) (Nat.ne_of_gt M5.out.2.1.lt) (by simp) (by simp) (atStrs_new w5 9 [⟨#[]⟩, ⟨#[120]⟩, ⟨#[111, 97]⟩])
            have HOF := Lib.hid hof
            clear hof hy0
            go_wp2_with fail
            refine HOF.out.mono ?_
            rintro e w9 ⟨s, hs, rfl, hr9, hg9⟩
            have hs2 : s.size ≤ 2 := by
              simp only [List.mem_cons, List.not_mem_nil, or_false] at hs
              rcases hs with rfl | rfl | rfl <;> decide
            have M9 := Lib.hid (Nm.pick (M5.out.step (below_new _ (.cells #[.string ⟨#[]⟩, .string ⟨#[120]⟩, .string ⟨#[111, 97]⟩] 9))) hg9 hr9)
            clear hs hr9 hg9 HOF M5
            obtain ⟨f0, f1, z0, z1⟩ := M9.out.2.2.1.facts 0 h0p
            simp only [Nat.zero_mul, Nat.zero_add] at f0 f1 z0 z1
            have M8 := Lib.hid (M9.out.put1 h0p s)
            go_wp2_with fail
            go_ret
            exact ⟨ns.set 0 ((ns.getD 0 Z2).1, s), g, c, q + 1 + S.size + 1 + 1, by rw [List.length_set]; rfl, M8.out.2.2.1, BD.out.set0 ⟨b0.1, hs2⟩, by rw [List.length_set]; omega, by omega, M8.out.2.1, M8.out.1⟩
          · have u1 := beq_f (show (y : Int) ≠ 1 by omega)
            have u1n : (y == 1) = false := by simpa using hy1
            clear hy0 hy1
            go_wp2_with fail
            go_ret
            exact ⟨ns, g, c, q + 1 + S.size + 1, rfl, M5.out.2.2.1, BD.out, hn33, by omega, M5.out.2.1, M5.out.1⟩
end Go.Proofs.Ytebejpaghajhkaa
