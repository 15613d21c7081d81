/-
  The law FnTrackNext. No condition.
-/
import Derived.Test.YtkfgimhihknpoaaTl2
import Derived.Test.YtkfgimhihknpoaaHelp
namespace Go.Proofs.Ytkfgimhihknpoaa
open Go.RowKit
set_option linter.unusedVariables false

/-- nx over numbers. -/
def nxs (s n : Nat) : Nat → List Int
  | 0 => []
  | k + 1 => if canB s n k = true then nxs s n k ++ [(k : Int)] else nxs s n k
theorem nx_T (s n k : Nat) (h1 : 1 ≤ n) (h2 : n ≤ 8) (hs : s < 2 ^ n) (hk : k ≤ n) : nx (T s n) k = nxs s n k := by
  induction k with
  | zero => rfl
  | succ k ih =>
    simp only [nx, nxs]
    rw [ih (by omega), stepOk_T s n k h1 h2 hs (by omega)]
def nxsB (s n : Nat) : Bool := !(decide (1 ≤ n) && decide (s < 2 ^ n)) || ((!(cnt s n == 0) || nxs s n n == [0]) && (decide (cnt s n < n) || (nxs s n n).length == n))
theorem nxsB_all : ∀ n, n < 9 → ∀ s, s < 256 → nxsB s n = true := by decide +kernel
theorem nxs_facts (n s : Nat) (h1 : 1 ≤ n) (h2 : n ≤ 8) (hs : s < 2 ^ n) : (cnt s n = 0 → nxs s n n = [0]) ∧ (cnt s n < n ∨ (nxs s n n).length = n) := by
  have h := nxsB_all n (by omega) s (by have := pow8 h2; omega)
  unfold nxsB at h
  rw [dec_t h1, dec_t hs] at h
  simp only [Bool.and_self, Bool.not_true, Bool.false_or, Bool.and_eq_true, Bool.or_eq_true, Bool.not_eq_true', beq_eq_false_iff_ne, beq_iff_eq, decide_eq_true_eq] at h
  refine ⟨fun h0 => ?_, h.2⟩
  rcases h.1 with h | h
  · exact absurd h0 h
  · exact h
theorem mem_nx (S : ByteArray) (i k : Nat) : ((i : Int) ∈ nx S k) ↔ (i < k ∧ stepOk S i = true) := by
  induction k with
  | zero => simp [nx]
  | succ k ih =>
    simp only [nx]
    by_cases h : stepOk S k = true
    · rw [if_pos h, List.mem_append, ih, List.mem_singleton]
      constructor
      · rintro (⟨h1, h2⟩ | h1)
        · exact ⟨by omega, h2⟩
        · have : i = k := by omega
          subst this
          exact ⟨by omega, h⟩
      · rintro ⟨h1, h2⟩
        by_cases hik : i < k
        · exact .inl ⟨hik, h2⟩
        · exact .inr (by omega)
    · rw [if_neg h, ih]
      constructor
      · rintro ⟨h1, h2⟩; exact ⟨by omega, h2⟩
      · rintro ⟨h1, h2⟩
        refine ⟨?_, h2⟩
        by_cases hik : i = k
        · subst hik; exact absurd h2 h
        · omega

theorem atInts_new (w : World) (t : TypeId) (zs : List Int) : AtInts (w.alloc (.cells (zs.map (Value.int .i64)).toArray t)) w.heap.size 0 zs := by
  intro k hk
  rw [Nat.zero_add, cell_of_row _ w.heap.size k _ t (0, 0) (heap_alloc_new w _)]
  simp [List.getD, hk]

set_option maxHeartbeats 800000 in
theorem draw_next (A : Option Addr) (c m : Nat) (w : World) (hmc : m ≤ c) (hc : c ≤ 9223372036854775807) (hr : ByteRow w w.heap.size A m) :
    Calls Try.prog 13 #[.slice A m c] w (DrawS w 16) := by
  have HO := Lib.hid (open_any w.heap.size A m c w (Nat.le_refl _) hmc hc hr)
  clear hr
  go_enter Try.func13, Try.ntmps13
  go_wp2_with fail
  refine HO.out.mono ?_
  rintro e w1 ⟨rfl, hr1, hb1⟩
  have HR1 := Lib.hid hr1
  have HB1 := Lib.hid hb1
  clear hr1 hb1 HO
  go_wp2_with fail
  refine (pick_any w.heap.size w.heap.size 0 7 _ (by omega) (by omega) HR1.out).mono ?_
  rintro e w2 ⟨x, rfl, hx, hr2, hg2⟩
  have hx7 : x < 7 := by have := hx (by omega); omega
  have HR2 := Lib.hid hr2
  have HB2 := Lib.hid (below_app HB1.out hg2 (Nat.le_refl _))
  clear hr2 hg2 hx
  have htr := fun w' hr => track_any w.heap.size w.heap.size (0 + 1) (1 + x) w' (by omega) (by omega) hr
  rw [show ((1 + x : Nat) : Int) = 1 + (x : Int) by omega] at htr
  have HTR := Lib.hid htr
  clear htr
  go_wp2_with fail
  refine (HTR.out _ HR2.out).mono ?_
  rintro e w3 ⟨s, p', rfl, hs, _, _, hg3⟩
  have HB3 := Lib.hid (below_app HB2.out hg3 (Nat.le_refl _))
  clear hg3
  go_wp2_with fail
  go_ret
  exact ⟨s, rfl, by omega, HB3.out⟩

set_option maxHeartbeats 3200000 in
theorem law_TrackNext (A : Option Addr) (c : Nat) (ys : List Int) (w : World) (hq : ArgBytes w A c ys) :
    Calls Try.prog 4 #[.slice A ys.length c] w fun e w' => e = .returned (.bool true) ∧ Below w.heap.size w w' := by
  obtain ⟨hr, hlc, hc⟩ := hq
  by_cases hbig : 1048576 < ys.length
  · have t0 := dec_t (show (1048576 : Int) < (ys.length : Int) by omega)
    go_enter Try.func4, Try.ntmps4
    go_wp2_with fail
    go_ret
    exact ⟨rfl, Below.refl _ _⟩
  have t0 := dec_f (show ¬ (1048576 : Int) < (ys.length : Int) by omega)
  have HD := Lib.hid (draw_next A c ys.length w hlc hc hr)
  clear hr
  go_enter Try.func4, Try.ntmps4
  go_wp2_with fail
  refine HD.out.mono ?_
  rintro e w1 ⟨S, rfl, hS, hb1⟩
  have B1 := Lib.hid hb1
  clear hb1 HD
  have hnl := nx_length S S.size
  go_wp2_with fail
  refine (impl_next S _ (by omega)).mono ?_
  rintro e w2 ⟨g, d, rfl, ho2, hb2⟩
  have G2 := Lib.hid (Nat.le_trans B1.out.size ho2.le)
  have O2 := Lib.hid ho2
  have B2 := Lib.hid (below_to B1.out hb2 B1.out.size)
  clear ho2 hb2 B1
  go_wp2_with fail
  refine (spec_next S _ (by omega)).mono ?_
  rintro e w3 ⟨g', d', rfl, ho3, hb3⟩
  have O3 := Lib.hid ho3
  have B3 := Lib.hid (below_to B2.out hb3 B2.out.size)
  have P3 := Lib.hid (O2.out.below hb3 O2.out.lt)
  clear ho3 hb3 B2 O2
  go_wp2_with fail
  refine (sameInts_any _ 0 _ _ 0 _ (nx S S.size) (nx S S.size) _ (by omega) (by omega) P3.out.at O3.out.at).mono ?_
  rintro e w4 ⟨rfl, n4, rfl⟩
  rw [dec_t (show nx S S.size = nx S S.size from rfl)]
  have P4 : Hid (Own (w3.drewN n4) w1.heap.size g d (nx S S.size)) := OwnV.keep P3.out rfl
  have O4 : Hid (Own (w3.drewN n4) w2.heap.size g' d' (nx S S.size)) := OwnV.keep O3.out rfl
  have B4 := Lib.hid (below_drewN B3.out n4)
  clear P3 O3 B3
  generalize w3.drewN n4 = w4 at *
  by_cases hl0 : (nx S S.size).length = 0
  · have hnil : nx S S.size = [] := List.eq_nil_of_length_eq_zero hl0
    rw [hnil] at P4 O4 ⊢
    clear hl0 hnil hnl
    go_wp2_with fail
    refine (sameInts_any _ 0 _ _ 0 _ [] [] _ (by simp) (by simp) P4.out.at O4.out.at).mono ?_
    rintro e w5 ⟨rfl, n5, rfl⟩
    rw [dec_t (show ([] : List Int) = [] from rfl)]
    go_wp2_with fail
    go_ret
    exact ⟨rfl, below_drewN B4.out n5⟩
  · have t1 := beq_f (show ((nx S S.size).length : Int) ≠ 0 by omega)
    have t1' : ((nx S S.size).length == 0) = false := by simpa using hl0
    have hv : trB S = true := by
      by_cases hv : trB S = true
      · exact hv
      · exact absurd (by rw [nx_no (by simpa using hv)]; rfl) hl0
    obtain ⟨s, n, h1, h2, hs, hST⟩ := trB_T hv
    have hz : S.size = n := by rw [hST, T_size]
    have hnx : nx S S.size = nxs s n n := by rw [hz, hST]; exact nx_T s n n h1 h2 hs (Nat.le_refl _)
    have hcn : cntB S 49 S.size = cnt s n := by rw [hz, hST]; exact cntB_T s n n (Nat.le_refl _)
    obtain ⟨f1, f2⟩ := nxs_facts n s h1 h2 hs
    rw [← hnx, ← hcn] at f1
    rw [← hnx, ← hcn, ← hz] at f2
    have F1 := Lib.hid f1
    have F2 := Lib.hid f2
    have hmem := fun i => mem_nx S i S.size
    have HMEM := Lib.hid hmem
    have hcle := cntB_le S 49 S.size
    clear f1 f2 hST hs hz hnx hcn hv hmem hl0 O4 h1 h2
    generalize hL : nx S S.size = L at *
    clear hL
    have hcnt := fun w => countOf_any S w (by omega)
    generalize cntB S 49 S.size = C at *
    have HCN := Lib.hid hcnt
    clear hcnt
    go_wp2_with fail
    refine (HCN.out _).mono ?_
    rintro e w' ⟨rfl, rfl⟩
    go_wp2_with fail
    go_loopw [7] (fun q wr => ∃ k : Nat, k ≤ S.size ∧ q = .int .i64 k ∧ Own wr w1.heap.size g d L ∧ Below w.heap.size w wr) (fun q _ => S.size - (intOf q).toNat)
    case atStart => exact ⟨0, by omega, rfl, P4.out, B4.out⟩
    case round =>
      clear P4 B4
      obtain ⟨k, hk, rfl, hown, hbel⟩ := hrel
      have P5 := Lib.hid hown
      have B5 := Lib.hid hbel
      clear hown hbel
      by_cases hlt : k < S.size
      · have hstep := fun w => impl_step S k w (by omega)
        have hsk : stepOk S k = decide ((k : Int) ∈ L) := by
          rw [Bool.eq_iff_iff, decide_eq_true_eq, HMEM.out k]
          exact ⟨fun h => ⟨hlt, h⟩, fun h => h.2⟩
        rw [hsk] at hstep
        have HST := Lib.hid hstep
        clear hstep hsk
        go_wp2_with fail
        refine (HST.out _).mono ?_
        rintro e w5 ⟨rfl, hb5⟩
        have P6 := Lib.hid (P5.out.below hb5 P5.out.lt)
        have B6 := Lib.hid (below_to B5.out hb5 B5.out.size)
        clear hb5
        go_wp2_with fail
        refine (hasInt_any _ 0 _ L k _ (by omega) P6.out.at).mono ?_
        rintro e w' ⟨rfl, rfl⟩
        generalize decide ((k : Int) ∈ L) = bb at *
        go_wp2_with fail
        go_roundw
        case rel => exact ⟨k + 1, by omega, by go_num, P6.out, B6.out⟩
        case measure => simp [intOf]; omega
      · by_cases hC : C = 0
        · have hL := F1.out hC
          have HL := Lib.hid hL
          have hl1 : L.length ≤ 1 := by rw [hL]; simp
          subst hC
          have P6 := Lib.hid (Own.at P5.out)
          have P6 : Hid (AtInts (wr.alloc (.cells #[.int .i64 0] 3)) g 0 L) := Lib.hid (P6.out.below (below_new wr _) P5.out.lt)
          have B6 := Lib.hid (below_new' B5.out (.cells #[.int .i64 0] 3))
          clear hL
          go_wp2_with fail
          refine (sameInts_any _ 0 _ _ 0 _ L [0] _ (by omega) (by simp) P6.out (atInts_new wr 3 [0])).mono ?_
          rintro e w5 ⟨rfl, n5, rfl⟩
          rw [dec_t HL.out]
          go_wp2_with fail
          go_ret
          exact ⟨rfl, below_drewN B6.out n5⟩
        · have t2 := beq_f (show (C : Int) ≠ 0 by omega)
          have t2' : (C == 0) = false := by simpa using hC
          have hf := F2.out
          by_cases hCn : C < S.size
          · have t3 := dec_t hCn
            have t3' := dec_t (show (C : Int) < (S.size : Int) by omega)
            go_wp2_with fail
            go_ret
            exact ⟨rfl, B5.out⟩
          · have t3 := dec_f hCn
            have t3' := dec_f (show ¬ (C : Int) < (S.size : Int) by omega)
            have t4 := beq_t (show (L.length : Int) = (S.size : Int) by omega)
            have t4' : (L.length == S.size) = true := by simp; omega
            go_wp2_with fail
            go_ret
            exact ⟨rfl, B5.out⟩

end Go.Proofs.Ytkfgimhihknpoaa
