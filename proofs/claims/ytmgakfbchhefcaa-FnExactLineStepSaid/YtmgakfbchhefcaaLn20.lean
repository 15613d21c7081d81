/-
  Lines: the laws' helpers for moves, the marks in a line. No condition but lengths that fit.
-/
import Derived.Test.YtmgakfbchhefcaaLl1
import Derived.Test.YtmgakfbchhefcaaLn15
namespace Go.Proofs.Ytmgakfbchhefcaa
open Go.RowKit
set_option linter.unusedVariables false
set_option linter.unusedSimpArgs false

set_option maxHeartbeats 400000 in
theorem toMove_any (n : Int) (s : ByteArray) (w : World) : Calls Try.prog 18 #[.agg #[.int .i64 n, .string s]] w fun e w' => e = .returned (.agg #[.int .i64 n, .string s]) ∧ Below w.heap.size w w' := by
  go_enter Try.func18, Try.ntmps18
  go_wp2
  refine bodyPost_ret (v := .agg #[.int .i64 n, .string s]) (by simp [results, Try.results18, go_sem]) rfl ⟨rfl, below_new' (below_new' (below_new w _) _) _⟩
set_option maxHeartbeats 400000 in
theorem szMove_any (m : Int) (s : ByteArray) (left : Int) (w : World) (hs : s.size ≤ 9223372036854775807) (h0 : 0 ≤ left ∧ left ≤ 1099511627776) :
    Calls Try.prog 15 #[.agg #[.int .i64 m, .string s], .int .i64 left] w fun e w' => e = .returned (.int .i64 (if (s.size : Int) ≤ left then left - s.size else -1)) ∧ Below w.heap.size w w' := by
  by_cases h : (s.size : Int) ≤ left
  · rw [if_pos h]
    have t0 := dec_f (show ¬ left - (s.size : Int) < 0 by omega)
    go_enter Try.func15, Try.ntmps15
    go_wp2
    go_ret
    exact ⟨rfl, below_new w _⟩
  · rw [if_neg h]
    have t0 := dec_t (show left - (s.size : Int) < 0 by omega)
    go_enter Try.func15, Try.ntmps15
    go_wp2
    go_ret
    exact ⟨rfl, below_new w _⟩
/-- The marks in blocks, from k on. -/
def mkB (k : Nat) : BV := ((k : Int), decide ((k + 1) % 3 = 0), decide ((k + 2) % 3 = 0))
def mksB (k n : Nat) : List BV := (List.range n).map fun j => mkB (k + 3 * j)
theorem mksB_length (k n : Nat) : (mksB k n).length = n := by simp [mksB]
theorem mksB_get (k n j : Nat) (h : j < n) : (mksB k n).getD j Z3 = mkB (k + 3 * j) := by simp [mksB, List.getD, h]
theorem mkB_set (bs : List BV) (k j : Nat) (hj : j < bs.length) : (mksB k j ++ bs.drop j).set j (mkB (k + 3 * j)) = mksB k (j + 1) ++ bs.drop (j + 1) := by
  rw [List.set_append_right _ _ (by rw [mksB_length]; exact Nat.le_refl _), mksB_length, Nat.sub_self]
  have e : bs.drop j = bs[j] :: bs.drop (j + 1) := List.drop_eq_getElem_cons hj
  rw [e, List.set_cons_zero]
  have e2 : mksB k (j + 1) = mksB k j ++ [mkB (k + 3 * j)] := by simp [mksB, List.range_succ]
  rw [e2]
  simp
/-- A mark's two flags. -/
theorem tmod3 (K : Nat) (x : Int) (h : x = (K : Int)) : Int.tmod x 3 = ((K % 3 : Nat) : Int) ∧ x % 3 = ((K % 3 : Nat) : Int) := by
  subst h
  exact ⟨by rw [Int.tmod_eq_emod_of_nonneg (by omega)]; rfl, rfl⟩
theorem tmod_d (K : Nat) : ((((K % 3 : Nat) : Int)) == 0) = decide (K % 3 = 0) := by
  rw [Bool.eq_iff_iff, beq_iff_eq, decide_eq_true_eq]
  omega
set_option maxHeartbeats 800000 in
theorem markBlockS_any (base g c k : Nat) (bs : List BV) (w : World) (hn : bs.length ≤ 1048576) (hk : k ≤ 1048576) (ho : OwnB w base g c bs) :
    Calls Try.prog 56 #[.slice (some ⟨g, 0, none⟩) bs.length c, .int .i64 (k : Int)] w fun e w' => e = .returned (.int .i64 (((k + 3 * bs.length : Nat) : Int))) ∧ OwnB w' base g c (mksB k bs.length) ∧ w.grownBy w' (some g) ∧ w'.heap.size = w.heap.size := by
  obtain ⟨n, hnn⟩ : ∃ n, bs.length = n := ⟨_, rfl⟩
  have HO := Lib.hid ho
  have HNN := Lib.hid hnn
  rw [hnn] at hn ⊢
  clear ho hnn
  go_enter Try.func56, Try.ntmps56
  go_wp2_with fail
  go_loopw [1, 5] (fun q i wr => ∃ j : Nat, j ≤ n ∧ i = .int .i64 j ∧ q = .int .i64 ((k + 3 * j : Nat) : Int) ∧ OwnB wr base g c (mksB k j ++ bs.drop j) ∧ w.grownBy wr (some g) ∧ wr.heap.size = w.heap.size) (fun _ i _ => n - (intOf i).toNat)
  case atStart => exact ⟨0, Nat.zero_le _, rfl, rfl, by simpa [mksB] using HO.out, World.grownBy.refl _ _, rfl⟩
  case round =>
    obtain ⟨j, hj, rfl, rfl, hown, hgr, hsz⟩ := hrel
    have HG := Lib.hid hgr
    have HOW := Lib.hid hown
    have HSZ := Lib.hid hsz
    clear hgr hown hsz
    have hlen : (mksB k j ++ bs.drop j).length = n := by rw [List.length_append, mksB_length, List.length_drop, HNN.out]; omega
    by_cases hlt : j < n
    · obtain ⟨c0, c1, c2, f0, f1, f2⟩ := HOW.out.facts j (by omega)
      have hst := HOW.out.store j (by omega) (mkB (k + 3 * j))
      rw [mkB_set bs k j (by have := HNN.out; omega)] at hst
      obtain ⟨K, hK⟩ : ∃ K : Nat, k + 3 * j = K := ⟨_, rfl⟩
      have hKb : K ≤ 4194304 := by omega
      obtain ⟨z0, z0'⟩ := tmod3 (K + 1) ((K : Int) + 1) (by omega)
      obtain ⟨z1, z1'⟩ := tmod3 (K + 1 + 1) ((K : Int) + 1 + 1) (by omega)
      have b0 := tmod_d (K + 1)
      have b1 := tmod_d (K + 1 + 1)
      rw [hK] at hst ⊢
      unfold mkB at hst
      simp only at hst
      obtain ⟨D0, hD0⟩ : ∃ D, decide ((K + 1) % 3 = 0) = D := ⟨_, rfl⟩
      obtain ⟨D1, hD1⟩ : ∃ D, decide ((K + 2) % 3 = 0) = D := ⟨_, rfl⟩
      rw [hD0] at hst b0
      rw [hD1] at hst
      rw [show K + 1 + 1 = K + 2 by omega, hD1] at b1
      generalize hr0 : (K + 1) % 3 = r0 at *
      generalize hr1 : (K + 1 + 1) % 3 = r1 at *
      have HST := Lib.hid hst
      have HK := Lib.hid hK
      have i1 : (j : Int) < (n : Int) := by omega
      have i2 : (j : Int) < (bs.length : Int) := by have := HNN.out; omega
      have hjn : j + 1 ≤ n := hlt
      generalize (mksB k j ++ bs.drop j).getD j Z3 = O at *
      obtain ⟨O0, O1, O2⟩ := O
      simp only at c0 c1 c2
      clear hK hr0 hr1 hD0 hD1 hst hlen hlt
      go_wp2_with fail
      go_roundw
      case rel => exact ⟨j + 1, hjn, by go_num, by have := HK.out; go_num, HST.out, grownBy_trans HG.out ⟨rfl, rfl, rfl, by simp, fun i _ hne => (Below.heap_setCell _ _ _ _ (fun e => hne (by rw [e]))).trans ((Below.heap_setCell _ _ _ _ (fun e => hne (by rw [e]))).trans (Below.heap_setCell _ _ _ _ (fun e => hne (by rw [e]))))⟩, by simp; exact HSZ.out⟩
      case measure => simp [intOf]; omega
    · obtain rfl : j = n := by omega
      have hd : bs.drop j = [] := List.drop_eq_nil_of_le (by rw [HNN.out]; omega)
      have HF : Hid (OwnB wr base g c (mksB k j)) := Lib.hid (by have := HOW.out; rw [hd, List.append_nil] at this; exact this)
      clear hlt hd hlen
      go_wp2_with fail
      go_ret
      exact ⟨rfl, HF.out, HG.out, HSZ.out⟩
set_option maxHeartbeats 800000 in
theorem heldBlockS_any (g off c k n : Nat) (w : World) (hn : n ≤ 1048576) (hk : k ≤ 1048576) (ho : AtBl w g off (mksB k n)) :
    Calls Try.prog 58 #[.slice (some ⟨g, off, none⟩) n c, .int .i64 (k : Int)] w fun e w' => e = .returned (.int .i64 (((k + 3 * n : Nat) : Int))) ∧ w = w' := by
  have HA := Lib.hid ho
  have hz : w.drewN 0 = w := rfl
  clear ho hz
  go_enter Try.func58, Try.ntmps58
  go_wp2_with fail
  go_loopw [1, 5] (fun q i wr => ∃ j : Nat, j ≤ n ∧ i = .int .i64 j ∧ q = .int .i64 ((k + 3 * j : Nat) : Int) ∧ w = wr) (fun _ i _ => n - (intOf i).toNat)
  case atStart => exact ⟨0, Nat.zero_le _, rfl, rfl, rfl⟩
  case round =>
    obtain ⟨j, hj, rfl, rfl, rfl⟩ := hrel
    by_cases hlt : j < n
    · obtain ⟨c0, c1, c2⟩ := HA.out j (by rw [mksB_length]; exact hlt)
      rw [mksB_get k n j hlt] at c0 c1 c2
      obtain ⟨K, hK⟩ : ∃ K : Nat, k + 3 * j = K := ⟨_, rfl⟩
      have hKb : K ≤ 4194304 := by omega
      obtain ⟨z0, z0'⟩ := tmod3 (K + 1) ((K : Int) + 1) (by omega)
      obtain ⟨z1, z1'⟩ := tmod3 (K + 1 + 1) ((K : Int) + 1 + 1) (by omega)
      have b0 := tmod_d (K + 1)
      have b1 := tmod_d (K + 1 + 1)
      rw [hK] at c0 c1 c2 ⊢
      unfold mkB at c0 c1 c2
      simp only at c0 c1 c2
      obtain ⟨D0, hD0⟩ : ∃ D, decide ((K + 1) % 3 = 0) = D := ⟨_, rfl⟩
      obtain ⟨D1, hD1⟩ : ∃ D, decide ((K + 2) % 3 = 0) = D := ⟨_, rfl⟩
      rw [hD0] at c1 b0
      rw [hD1] at c2
      rw [show K + 1 + 1 = K + 2 by omega, hD1] at b1
      generalize hr0 : (K + 1) % 3 = r0 at *
      generalize hr1 : (K + 1 + 1) % 3 = r1 at *
      have HK := Lib.hid hK
      have i1 : (j : Int) < (n : Int) := by omega
      have hjn : j + 1 ≤ n := hlt
      have t0 := bne_f (show (K : Int) = (K : Int) from rfl)
      have t1 : bne D0 D0 = false := by cases D0 <;> rfl
      have t2 : bne D1 D1 = false := by cases D1 <;> rfl
      clear hK hr0 hr1 hD0 hD1 hlt
      go_wp2_with fail
      go_roundw
      case rel => exact ⟨j + 1, hjn, by go_num, by have := HK.out; go_num, trivial⟩
      case measure => simp [intOf]; omega
    · obtain rfl : j = n := by omega
      clear hlt
      go_wp2_with fail
      go_ret
      exact ⟨rfl, rfl⟩
/-- What marking a line leaves. -/
def MarkedL (w : World) (base g d g' d' n m k : Nat) (e : Ending) (w' : World) : Prop :=
  e = .returned (.int .i64 ((k + 3 * n + m : Nat) : Int)) ∧ OwnB w' base g d (mksB k n) ∧ Own w' base g' d' (marks ((k + 3 * n : Nat) : Int) m) ∧ ∃ W, w.grownBy W (some g) ∧ W.grownBy w' (some g')
set_option maxHeartbeats 800000 in
theorem markLine_any (base g d g' d' k : Nat) (bs : List BV) (ts : List Int) (w : World) (hn : bs.length ≤ 1048576) (hm : ts.length ≤ 1048576) (hk : k ≤ 1048576) (ho : OwnB w base g d bs) (ho' : Own w base g' d' ts) (hne : g ≠ g') :
    Calls Try.prog 21 #[.agg #[.slice (some ⟨g, 0, none⟩) bs.length d, .slice (some ⟨g', 0, none⟩) ts.length d'], .int .i64 (k : Int)] w (MarkedL w base g d g' d' bs.length ts.length k) := by
  have G1 : Hid (w.grownBy (w.alloc (.cells #[.slice (some ⟨g, 0, none⟩) bs.length d, .slice (some ⟨g', 0, none⟩) ts.length d'] 32)) (some g)) := Lib.hid ⟨rfl, rfl, rfl, by simp, fun i hi _ => Below.heap_alloc w _ i hi⟩
  have O1 := Lib.hid (show OwnB (w.alloc (.cells #[.slice (some ⟨g, 0, none⟩) bs.length d, .slice (some ⟨g', 0, none⟩) ts.length d'] 32)) base g d bs from OwnV.alloc ho _)
  have P1 := Lib.hid (show Own (w.alloc (.cells #[.slice (some ⟨g, 0, none⟩) bs.length d, .slice (some ⟨g', 0, none⟩) ts.length d'] 32)) base g' d' ts from OwnV.alloc ho' _)
  have K1 := Lib.hid (Blk.new w 32 #[.slice (some ⟨g, 0, none⟩) bs.length d, .slice (some ⟨g', 0, none⟩) ts.length d'])
  have N1 : Hid (w.heap.size ≠ g) := Lib.hid (by have := OwnV.lt ho; omega)
  have NN := Lib.hid hne
  clear ho ho' hne
  go_enter Try.func21, Try.ntmps21
  go_upto_region 1 with fail
  generalize w.alloc (.cells #[.slice (some ⟨g, 0, none⟩) bs.length d, .slice (some ⟨g', 0, none⟩) ts.length d'] 32) = W1 at *
  obtain ⟨c0, c1, _, _⟩ := blkCells2 K1.out
  go_wp2_with fail
  refine (markBlockS_any base g d k bs W1 hn hk O1.out).mono ?_
  rintro e w2 ⟨rfl, ho2, hg2, _⟩
  have G2 := Lib.hid (grownBy_trans G1.out hg2)
  have O2 := Lib.hid ho2
  have P2 := Lib.hid (show Own w2 base g' d' ts from OwnV.grown P1.out hg2 (by intro e; injection e; exact NN.out (by omega)))
  have K2 := Lib.hid (K1.out.grown hg2 (by intro e; injection e; exact N1.out (by assumption)))
  clear ho2 hg2 c0 c1 G1 O1 P1 K1
  obtain ⟨c0, c1, _, _⟩ := blkCells2 K2.out
  have e1 : ((k + 3 * bs.length : Nat) : Int) = ((k + 3 * bs.length : Nat) : Int) := rfl
  generalize hk2 : k + 3 * bs.length = k2 at *
  have HK := Lib.hid hk2
  have hk3 : k2 ≤ 4194304 := by omega
  clear hk2 e1
  go_wp2_with fail
  refine (markIntS_any base g' d' ts (k2 : Int) w2 (by omega) (by omega) (by omega) P2.out).mono ?_
  rintro e w3 ⟨rfl, ho3, hg3, _⟩
  have O3 := Lib.hid (show OwnB w3 base g d (mksB k bs.length) from OwnV.grown O2.out hg3 (by intro e; injection e; exact NN.out (by omega)))
  go_wp2_with fail
  go_ret
  refine ⟨congrArg Ending.returned (show Value.int .i64 ((k2 : Int) + (ts.length : Int)) = .int .i64 ((k + 3 * bs.length + ts.length : Nat) : Int) by rw [HK.out]; rfl), O3.out, by rw [HK.out]; exact ho3, w2, G2.out, hg3⟩
set_option maxHeartbeats 800000 in
theorem heldLine_any (g d g' d' k n m : Nat) (w : World) (hn : n ≤ 1048576) (hm : m ≤ 1048576) (hk : k ≤ 1048576) (hb : g < w.heap.size) (hb' : g' < w.heap.size) (ho : AtBl w g 0 (mksB k n)) (ho' : AtInts w g' 0 (marks ((k + 3 * n : Nat) : Int) m)) :
    Calls Try.prog 22 #[.agg #[.slice (some ⟨g, 0, none⟩) n d, .slice (some ⟨g', 0, none⟩) m d'], .int .i64 (k : Int)] w fun e w' => e = .returned (.int .i64 ((k + 3 * n + m : Nat) : Int)) ∧ Below w.heap.size w w' := by
  have B1 := Lib.hid (below_new w (.cells #[.slice (some ⟨g, 0, none⟩) n d, .slice (some ⟨g', 0, none⟩) m d'] 32))
  have O1 := Lib.hid (ho.below B1.out hb)
  have P1 := Lib.hid (ho'.below B1.out hb')
  have K1 := Lib.hid (Blk.new w 32 #[.slice (some ⟨g, 0, none⟩) n d, .slice (some ⟨g', 0, none⟩) m d'])
  clear ho ho' hb hb'
  go_enter Try.func22, Try.ntmps22
  go_upto_region 1 with fail
  generalize w.alloc (.cells #[.slice (some ⟨g, 0, none⟩) n d, .slice (some ⟨g', 0, none⟩) m d'] 32) = W1 at *
  obtain ⟨c0, c1, _, _⟩ := blkCells2 K1.out
  go_wp2_with fail
  refine (heldBlockS_any g 0 d k n W1 hn hk O1.out).mono ?_
  rintro e w2 ⟨rfl, rfl⟩
  generalize hk2 : k + 3 * n = k2 at *
  have HK := Lib.hid hk2
  have hk3 : k2 ≤ 4194304 := by omega
  clear hk2
  have t0 := dec_f (show ¬ (k2 : Int) < 0 by omega)
  have t1 := dec_f (show ¬ (k2 : Int) + (m : Int) < 0 by omega)
  go_wp2_with fail
  refine (heldIntS_any g' 0 d' m (k2 : Int) W1 (by omega) (by omega) (by omega) P1.out).mono ?_
  rintro e w3 ⟨rfl, rfl⟩
  go_wp2_with fail
  go_ret
  exact ⟨congrArg Ending.returned (show Value.int .i64 ((k2 : Int) + (m : Int)) = .int .i64 ((k + 3 * n + m : Nat) : Int) by rw [HK.out]; rfl), B1.out⟩
theorem eqBlockS_nil (w : World) : Calls Try.prog 54 #[.slice none 0 0, .slice none 0 0] w fun e w' => e = .returned (.bool true) ∧ w = w' := by
  go_enter Try.func54, Try.ntmps54
  go_wp2_with fail
  go_loop [5] (fun q => q = .int .i64 0) (fun q => 0)
  case atStart => first | rfl | exact ⟨rfl, rfl⟩
  case round =>
    first | subst hrel | (obtain ⟨rfl, rfl⟩ := hrel)
    go_wp2_with fail
    go_ret
    exact ⟨rfl, rfl⟩
theorem eqIntS_nil (w : World) : Calls Try.prog 55 #[.slice none 0 0, .slice none 0 0] w fun e w' => e = .returned (.bool true) ∧ w = w' := by
  go_enter Try.func55, Try.ntmps55
  go_wp2_with fail
  go_loop [5] (fun q => q = .int .i64 0) (fun q => 0)
  case atStart => first | rfl | exact ⟨rfl, rfl⟩
  case round =>
    first | subst hrel | (obtain ⟨rfl, rfl⟩ := hrel)
    go_wp2_with fail
    go_ret
    exact ⟨rfl, rfl⟩
theorem markBlockS_nil (k : Int) (w : World) : Calls Try.prog 56 #[.slice none 0 0, .int .i64 k] w fun e w' => e = .returned (.int .i64 k) ∧ w = w' := by
  go_enter Try.func56, Try.ntmps56
  go_wp2_with fail
  go_loop [1, 5] (fun q i => q = .int .i64 k ∧ i = .int .i64 0) (fun q i => 0)
  case atStart => first | rfl | exact ⟨rfl, rfl⟩
  case round =>
    first | subst hrel | (obtain ⟨rfl, rfl⟩ := hrel)
    go_wp2_with fail
    go_ret
    exact ⟨rfl, rfl⟩
theorem markIntS_nil (k : Int) (w : World) : Calls Try.prog 57 #[.slice none 0 0, .int .i64 k] w fun e w' => e = .returned (.int .i64 k) ∧ w = w' := by
  go_enter Try.func57, Try.ntmps57
  go_wp2_with fail
  go_loop [1, 5] (fun q i => q = .int .i64 k ∧ i = .int .i64 0) (fun q i => 0)
  case atStart => first | rfl | exact ⟨rfl, rfl⟩
  case round =>
    first | subst hrel | (obtain ⟨rfl, rfl⟩ := hrel)
    go_wp2_with fail
    go_ret
    exact ⟨rfl, rfl⟩
theorem heldBlockS_nil (k : Int) (w : World) : Calls Try.prog 58 #[.slice none 0 0, .int .i64 k] w fun e w' => e = .returned (.int .i64 k) ∧ w = w' := by
  go_enter Try.func58, Try.ntmps58
  go_wp2_with fail
  go_loop [1, 5] (fun q i => q = .int .i64 k ∧ i = .int .i64 0) (fun q i => 0)
  case atStart => first | rfl | exact ⟨rfl, rfl⟩
  case round =>
    first | subst hrel | (obtain ⟨rfl, rfl⟩ := hrel)
    go_wp2_with fail
    go_ret
    exact ⟨rfl, rfl⟩
theorem heldIntS_nil (k : Int) (w : World) : Calls Try.prog 59 #[.slice none 0 0, .int .i64 k] w fun e w' => e = .returned (.int .i64 k) ∧ w = w' := by
  go_enter Try.func59, Try.ntmps59
  go_wp2_with fail
  go_loop [1, 5] (fun q i => q = .int .i64 k ∧ i = .int .i64 0) (fun q i => 0)
  case atStart => first | rfl | exact ⟨rfl, rfl⟩
  case round =>
    first | subst hrel | (obtain ⟨rfl, rfl⟩ := hrel)
    go_wp2_with fail
    go_ret
    exact ⟨rfl, rfl⟩
set_option maxHeartbeats 400000 in
theorem eqLine_nil (w : World) : Calls Try.prog 20 #[.agg #[.slice none 0 0, .slice none 0 0], .agg #[.slice none 0 0, .slice none 0 0]] w fun e w' => e = .returned (.bool true) ∧ Below w.heap.size w w' := by
  have H1 := Lib.hid (fun w => eqBlockS_nil w)
  have H2 := Lib.hid (fun w => eqIntS_nil w)
  go_enter Try.func20, Try.ntmps20
  go_wp2_with (first | (go_at_call 54; go_must (go_fit (H1.out _); rintro e w2 ⟨rfl, rfl⟩)) | (go_at_call 55; go_must (go_fit (H2.out _); rintro e w2 ⟨rfl, rfl⟩)))
  go_ret
  exact ⟨rfl, below_new' (below_new w _) _⟩
theorem markLine_nil (w : World) : Calls Try.prog 21 #[.agg #[.slice none 0 0, .slice none 0 0], .int .i64 1] w fun e w' => e = .returned (.int .i64 1) ∧ Below w.heap.size w w' := by
  have H1 := Lib.hid (fun w => markBlockS_nil 1 w)
  have H2 := Lib.hid (fun w => markIntS_nil 1 w)
  go_enter Try.func21, Try.ntmps21
  go_wp2_with (first | (go_at_call 56; go_must (go_fit (H1.out _); rintro e w2 ⟨rfl, rfl⟩)) | (go_at_call 57; go_must (go_fit (H2.out _); rintro e w2 ⟨rfl, rfl⟩)))
  go_ret
  exact ⟨rfl, below_new w _⟩
theorem heldLine_nil (w : World) : Calls Try.prog 22 #[.agg #[.slice none 0 0, .slice none 0 0], .int .i64 1] w fun e w' => e = .returned (.int .i64 1) ∧ Below w.heap.size w w' := by
  have H1 := Lib.hid (fun w => heldBlockS_nil 1 w)
  have H2 := Lib.hid (fun w => heldIntS_nil 1 w)
  go_enter Try.func22, Try.ntmps22
  go_wp2_with (first | (go_at_call 58; go_must (go_fit (H1.out _); rintro e w2 ⟨rfl, rfl⟩)) | (go_at_call 59; go_must (go_fit (H2.out _); rintro e w2 ⟨rfl, rfl⟩)))
  go_ret
  exact ⟨rfl, below_new w _⟩
end Go.Proofs.Ytmgakfbchhefcaa
