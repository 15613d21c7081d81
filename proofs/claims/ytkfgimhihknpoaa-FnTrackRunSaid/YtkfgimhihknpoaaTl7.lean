/-
  Walks seen backwards from the other side, plain; the law FnTrackTurn. No condition.
-/
import Derived.Test.YtkfgimhihknpoaaTl6
import Derived.Test.YtkfgimhihknpoaaPass
import Derived.Test.YtkfgimhihknpoaaWayP
namespace Go.Proofs.Ytkfgimhihknpoaa
open Go.RowKit
set_option linter.unusedVariables false

def turnB (s n i : Nat) : Bool := !(canB s n i && decide (s < 2 ^ n) && decide (i < n)) || (canB (revT (s ^^^ 2 ^ i) n) n (n - 1 - i) && (revT (s ^^^ 2 ^ i) n ^^^ 2 ^ (n - 1 - i) == revT s n))
theorem turnB_all : ∀ n, n < 9 → ∀ s, s < 256 → ∀ i, i < 8 → turnB s n i = true := by decide +kernel
theorem turn_step {n s t : Nat} (h2 : n ≤ 8) (hs : s < 2 ^ n) (h : StepT n s t) : StepT n (revT t n) (revT s n) := by
  obtain ⟨i, hi, hc, rfl⟩ := h
  have h := turnB_all n (by omega) s (by have := pow8 h2; omega) i (by omega)
  unfold turnB at h
  rw [hc, dec_t hs, dec_t hi] at h
  simp only [Bool.and_self, Bool.not_true, Bool.false_or, Bool.and_eq_true, beq_iff_eq] at h
  exact ⟨n - 1 - i, by omega, h.1, h.2⟩
theorem revB_all : ∀ n, n < 9 → ∀ s, s < 256 → (!(decide (s < 2 ^ n)) || (revT (revT s n) n == s)) = true := by decide +kernel
theorem rev_rev {n s : Nat} (h2 : n ≤ 8) (hs : s < 2 ^ n) : revT (revT s n) n = s := by
  have h := revB_all n (by omega) s (by have := pow8 h2; omega)
  rw [dec_t hs] at h
  simpa using h
theorem nearK_iff {s n s' k : Nat} : nearK s n s' k = true ↔ ∃ i, i < k ∧ canB s n i = true ∧ s ^^^ 2 ^ i = s' := by
  induction k with
  | zero => simp [nearK]
  | succ k ih =>
    constructor
    · intro h
      by_cases hk : nearK s n s' k = true
      · obtain ⟨i, hi, h1⟩ := ih.1 hk; exact ⟨i, by omega, h1⟩
      · have hk' : nearK s n s' k = false := by simpa using hk
        by_cases hc : canB s n k = true
        · by_cases he : s ^^^ 2 ^ k = s'
          · exact ⟨k, by omega, hc, he⟩
          · rw [nearK_no hk' (.inr he)] at h; cases h
        · rw [nearK_no hk' (.inl (by simpa using hc))] at h; cases h
    · rintro ⟨i, hi, hc, he⟩; exact nearK_hit hi hc he
theorem isB_iff {s n s' n' : Nat} (h1 : 1 ≤ n) (h2 : n ≤ 8) (hs : s < 2 ^ n) (h1' : 1 ≤ n') (h2' : n' ≤ 8) (hs' : s' < 2 ^ n') : isB (T s n) (T s' n') = true ↔ n = n' ∧ StepT n s s' := by
  rw [isB_T h1 h2 hs h1' h2' hs']
  unfold nearB
  rw [Bool.and_eq_true, beq_iff_eq, nearK_iff]
  exact Iff.rfl
/-- The tracks of a list, as sets of one size. -/
def Wk (n : Nat) (f : Nat → Nat) (m : Nat) (ss : List Bs) : Prop := ss.length = m ∧ 0 < m ∧ 1 ≤ n ∧ n ≤ 8 ∧ (∀ k, k < m → f k < 2 ^ n ∧ ss.getD k ByteArray.empty = T (f k) n) ∧ ∀ k, k + 1 < m → StepT n (f k) (f (k + 1))
theorem walkB_iff {ss : List Bs} : walkB ss = true ↔ 0 < ss.length ∧ ∀ k, k < ss.length → wkAt ss k = true := by
  unfold walkB
  rw [Bool.and_eq_true, decide_eq_true_eq]
  have h : ∀ m, wkK ss m = true ↔ ∀ k, k < m → wkAt ss k = true := by
    intro m
    induction m with
    | zero => simp [wkK]
    | succ m ih =>
      simp only [wkK, Bool.and_eq_true]
      rw [ih]
      constructor
      · rintro ⟨h1, h2⟩ k hk
        by_cases hkm : k < m
        · exact h1 k hkm
        · obtain rfl : k = m := by omega
          exact h2
      · intro h; exact ⟨fun k hk => h k (by omega), h m (by omega)⟩
  rw [h]
theorem wk_of {ss : List Bs} (h : walkB ss = true) : ∃ n f, Wk n f ss.length ss := by
  obtain ⟨hp, hwk⟩ := walkB_parts h
  have hall := (walkB_iff.1 h).2
  have hsz := fun k hk => wk_size hwk k hk
  have h0 := hsz 0 hp
  obtain ⟨h1, h8⟩ := trB_len h0.1
  have hT : ∀ k, k < ss.length → tset (ss.getD k ByteArray.empty) < 2 ^ (ss.getD 0 ByteArray.empty).size ∧ ss.getD k ByteArray.empty = T (tset (ss.getD k ByteArray.empty)) (ss.getD 0 ByteArray.empty).size := by
    intro k hk
    obtain ⟨ht, hz⟩ := hsz k hk
    obtain ⟨s, n, a, b, c, e⟩ := trB_T ht
    have hn : n = (ss.getD 0 ByteArray.empty).size := by rw [← hz, e, T_size]
    rw [← hn, e, tset_T s n a b c]
    exact ⟨c, rfl⟩
  refine ⟨(ss.getD 0 ByteArray.empty).size, fun k => tset (ss.getD k ByteArray.empty), rfl, hp, h1, h8, hT, fun k hk => ?_⟩
  have hw := hall (k + 1) hk
  rw [wkAt_is (hsz (k + 1) hk).1 (by omega), show k + 1 - 1 = k by omega] at hw
  rw [(hT k (by omega)).2, (hT (k + 1) hk).2] at hw
  exact ((isB_iff h1 h8 (hT k (by omega)).1 h1 h8 (hT (k + 1) hk).1).1 hw).2
theorem of_wk {ss : List Bs} {n m : Nat} {f : Nat → Nat} (h : Wk n f m ss) : walkB ss = true := by
  obtain ⟨hl, hm, h1, h8, hT, hs⟩ := h
  rw [walkB_iff, hl]
  refine ⟨hm, fun k hk => ?_⟩
  have htr : trB (ss.getD k ByteArray.empty) = true := by rw [(hT k hk).2]; exact trB_of _ _ h1 h8
  by_cases hk0 : k = 0
  · subst hk0; exact wkAt_0 htr
  · rw [wkAt_is htr (by omega), (hT k hk).2, (hT (k - 1) (by omega)).2]
    have := hs (k - 1) (by omega)
    rw [show k - 1 + 1 = k by omega] at this
    exact (isB_iff h1 h8 (hT (k - 1) (by omega)).1 h1 h8 (hT k hk).1).2 ⟨rfl, this⟩
/-- The first j texts of the list seen backwards from the other side. -/
def bkL (n : Nat) (f : Nat → Nat) (m j : Nat) : List Bs := (List.range j).map fun k => T (revT (f (m - 1 - k)) n) n
theorem bkL_length (n : Nat) (f : Nat → Nat) (m j : Nat) : (bkL n f m j).length = j := by simp [bkL]
theorem bkL_succ (n : Nat) (f : Nat → Nat) (m j : Nat) : bkL n f m (j + 1) = bkL n f m j ++ [T (revT (f (m - 1 - j)) n) n] := by simp [bkL, List.range_succ]
theorem bkL_get (n : Nat) (f : Nat → Nat) (m j k : Nat) (h : k < j) : (bkL n f m j).getD k ByteArray.empty = T (revT (f (m - 1 - k)) n) n := by simp [bkL, List.getD, h]
theorem wk_back {ss : List Bs} {n m : Nat} {f : Nat → Nat} (h : Wk n f m ss) : Wk n (fun k => revT (f (m - 1 - k)) n) m (bkL n f m m) := by
  obtain ⟨hl, hm, h1, h8, hT, hs⟩ := h
  refine ⟨bkL_length _ _ _ _, hm, h1, h8, fun k hk => ⟨revT_lt _ _, bkL_get n f m m k hk⟩, fun k hk => ?_⟩
  have := hs (m - 1 - (k + 1)) (by omega)
  rw [show m - 1 - (k + 1) + 1 = m - 1 - k by omega] at this
  exact turn_step h8 (hT (m - 1 - (k + 1)) (by omega)).1 this
theorem wk_take {ss : List Bs} {n m : Nat} {f : Nat → Nat} (h : Wk n f m ss) (j : Nat) (h0 : 0 < j) (hj : j ≤ m) : Wk n f j (ss.take j) := by
  obtain ⟨hl, hm, h1, h8, hT, hs⟩ := h
  refine ⟨by simp; omega, h0, h1, h8, fun k hk => ⟨(hT k (by omega)).1, ?_⟩, fun k hk => hs k (by omega)⟩
  rw [← (hT k (by omega)).2]
  simp [List.getD, hk]
theorem AtStrs.keep {w w' : World} {g off : Nat} {ss : List Bs} (h : AtStrs w g off ss) (hk : w'.heap[g]? = w.heap[g]?) : AtStrs w' g off ss := fun k hl => by
  rw [← h k hl]; simp only [World.cell?, hk]
theorem AtStrs.grown {w w' : World} {g off : Nat} {ss : List Bs} {row : Option Nat} (h : AtStrs w g off ss) (hg : w.grownBy w' row) (hl : g < w.heap.size) (hne : some g ≠ row) : AtStrs w' g off ss := h.keep (hg.block g hl hne)
theorem AtStrs.take {w : World} {g off : Nat} {ss : List Bs} (h : AtStrs w g off ss) (m : Nat) : AtStrs w g off (ss.take m) := fun k hk => by
  have hk' : k < ss.length ∧ k < m := by simp at hk; omega
  rw [h k hk'.1]
  simp [List.getD, hk'.1, hk'.2]
theorem sizes_ok {ss : List Bs} (h : ∀ s ∈ ss, s.size ≤ 15) : ∀ s ∈ ss, s.size ≤ 9223372036854775807 := fun s hs => by have := h s hs; omega
theorem bkL_sizes (n : Nat) (f : Nat → Nat) (m j : Nat) (h8 : n ≤ 8) : ∀ s ∈ bkL n f m j, s.size ≤ 9223372036854775807 := by
  intro s hs
  unfold bkL at hs
  obtain ⟨k, _, rfl⟩ := List.mem_map.1 hs
  rw [T_size]
  omega
theorem rem_nat {a b : Nat} (hb : 0 < b) : Int.tmod (a : Int) (b : Int) = ((a % b : Nat) : Int) ∧ (a : Int) % (b : Int) = ((a % b : Nat) : Int) := by
  constructor
  · rw [Int.tmod_eq_emod_of_nonneg (by omega)]; rfl
  · rfl

set_option maxHeartbeats 3200000 in
theorem law_TrackTurn (A : Option Addr) (c : Nat) (ys : List Int) (A' : Option Addr) (c' : Nat) (ys' : List Int) (w : World) (hq : ArgBytes w A c ys) (hq' : ArgBytes w A' c' ys') :
    Calls Try.prog 7 #[.slice A ys.length c, .slice A' ys'.length c'] w fun e w' => e = .returned (.bool true) ∧ Below w.heap.size w w' := by
  obtain ⟨hr, hlc, hc⟩ := hq
  obtain ⟨_, hlc', hc'⟩ := hq'
  by_cases hbig : 1048576 < ys.length
  · have t0 := dec_t (show (1048576 : Int) < (ys.length : Int) by omega)
    go_enter Try.func7, Try.ntmps7
    go_wp2_with fail
    go_ret
    exact ⟨rfl, Below.refl _ _⟩
  have t0 := dec_f (show ¬ (1048576 : Int) < (ys.length : Int) by omega)
  by_cases hbig' : 1048576 < ys'.length
  · have t0' := dec_t (show (1048576 : Int) < (ys'.length : Int) by omega)
    go_enter Try.func7, Try.ntmps7
    go_wp2_with fail
    go_ret
    exact ⟨rfl, Below.refl _ _⟩
  have t0' := dec_f (show ¬ (1048576 : Int) < (ys'.length : Int) by omega)
  have HD := Lib.hid (draw_walk A c ys.length w hlc hc hr)
  clear hr
  go_enter Try.func7, Try.ntmps7
  go_wp2_with fail
  refine HD.out.mono ?_
  rintro e w1 ⟨ss, g, d, rfl, hl10, hin, hld, hd, hat, hlt, hb1⟩
  have A1 := Lib.hid hat
  have B1 := Lib.hid hb1
  have L1 := Lib.hid hlt
  have HIN := Lib.hid (sizes_ok hin)
  clear hat hb1 hin hlt HD
  go_wp2_with fail
  refine (impl_walk g 0 d ss _ (by omega) hld hd HIN.out L1.out A1.out).mono ?_
  rintro e w2 ⟨rfl, hb2⟩
  have A2 := Lib.hid (A1.out.below hb2 L1.out)
  have L2 := Lib.hid (Nat.lt_of_lt_of_le L1.out hb2.size)
  have B2 := Lib.hid (below_to B1.out hb2 B1.out.size)
  clear hb2 A1 B1 L1
  go_wp2_with fail
  refine (spec_walk g 0 d ss _ (by omega) HIN.out A2.out).mono ?_
  rintro e w3 ⟨rfl, hq3⟩
  have hb3 := hq3.below w2.heap.size
  have A3 := Lib.hid (A2.out.below hb3 L2.out)
  have L3 := Lib.hid (Nat.lt_of_lt_of_le L2.out hb3.size)
  have B3 := Lib.hid (below_to B2.out hb3 B2.out.size)
  clear hb3 hq3 A2 B2 L2
  by_cases hv : walkB ss = true
  · obtain ⟨n, f, hwk⟩ := wk_of hv
    rw [hv]
    obtain ⟨m, hm⟩ : ∃ m, ss.length = m := ⟨_, rfl⟩
    have HWK := Lib.hid hwk
    have hpos := hwk.2.1
    have h8 := hwk.2.2.2.1
    have h1 := hwk.2.2.1
    have OE := Lib.hid (ownSM_empty w3 w.heap.size B3.out.size)
    have AE : Hid (AtStrs (w3.alloc (.cells #[] 9)) g 0 ss) := Lib.hid (A3.out.keep (Below.heap_alloc w3 _ g L3.out))
    have BE := Lib.hid (below_new' B3.out (.cells #[] 9))
    have LE : Hid (g < (w3.alloc (.cells #[] 9)).heap.size) := Lib.hid (by have := L3.out; simp; omega)
    have hne0 : g ≠ w3.heap.size := Nat.ne_of_lt L3.out
    clear hwk hv hm
    go_wp2_with fail
    go_loopw [8, 9] (fun v q wr => ∃ j g2 d2 : Nat, j ≤ ss.length ∧ q = .int .i64 ((ss.length : Int) - 1 - (j : Int)) ∧ v = .slice (some ⟨g2, 0, none⟩) j d2 ∧ OwnSM wr w.heap.size g2 d2 j (bkL n f ss.length j) ∧ AtStrs wr g 0 ss ∧ g < wr.heap.size ∧ g ≠ g2 ∧ Below w.heap.size w wr) (fun _ q _ => (intOf q + 1).toNat)
    case atStart => exact ⟨0, _, _, by omega, by simp, rfl, OE.out, AE.out, LE.out, hne0, BE.out⟩
    case round =>
      clear OE AE BE LE A3 L3 B3
      obtain ⟨j, g2, d2, hj, rfl, rfl, hown, ha, hl, hne, hbel⟩ := hrel
      have HOW := Lib.hid hown
      have HA := Lib.hid ha
      have HL := Lib.hid hl
      have HBE := Lib.hid hbel
      clear hown ha hl hbel
      by_cases hlt : j < ss.length
      · have hc := HA.out (ss.length - 1 - j) (by omega)
        rw [Nat.zero_add, (HWK.out.2.2.2.2.1 (ss.length - 1 - j) (by omega)).2] at hc
        have hft := (HWK.out.2.2.2.2.1 (ss.length - 1 - j) (by omega)).1
        have hbs := bkL_succ n f ss.length j
        generalize f (ss.length - 1 - j) = x at *
        have htu := fun w => impl_turn x n w h1 h8 hft
        generalize T x n = X at *
        generalize T (revT x n) n = Y at *
        have i1 : (0 : Int) ≤ (ss.length : Int) - 1 - (j : Int) := by omega
        have i2 : (ss.length : Int) - 1 - (j : Int) < (ss.length : Int) := by omega
        have i3 : ((ss.length : Int) - 1 - (j : Int)).toNat = ss.length - 1 - j := by omega
        have HTU := Lib.hid htu
        have HBS := Lib.hid hbs
        clear htu hbs hft
        go_wp2_with fail
        refine (HTU.out _).mono ?_
        rintro e w4 ⟨rfl, hb4⟩
        have O4 : Hid (OwnSM w4 w.heap.size g2 d2 j (bkL n f ss.length j)) := Lib.hid (OwnV.below HOW.out hb4 HOW.out.lt)
        have A4 := Lib.hid (HA.out.below hb4 HL.out)
        have L4 := Lib.hid (Nat.lt_of_lt_of_le HL.out hb4.size)
        have B4 := Lib.hid (below_to HBE.out hb4 HBE.out.size)
        clear hb4
        go_wp2_with (at_builtin; refine wpList_app1s rfl (.tmp 54) (.tmp 56) rfl _ rfl O4.out rfl (by omega) ?_; intro g' c' w' hown' hg' hat')
        have RO : Hid (OwnSM w' w.heap.size g' c' (j + 1) (bkL n f ss.length (j + 1))) := Lib.hid (by rw [HBS.out]; exact hown')
        have RA := Lib.hid (A4.out.grown hg' L4.out (by intro h; injection h; omega))
        have RL := Lib.hid (Nat.lt_of_lt_of_le L4.out hg'.size)
        have RB := Lib.hid (below_app B4.out hg' O4.out.le)
        have RN : Hid (g ≠ g') := Lib.hid (by have := L4.out; rcases hat' with h | h <;> omega)
        clear hown' hg' hat'
        go_wp2
        go_roundw
        case rel => exact ⟨j + 1, g', c', by omega, by go_num, rfl, RO.out, RA.out, RL.out, RN.out, RB.out⟩
        case measure => simp [intOf]; omega
      · obtain rfl : j = ss.length := by omega
        have t1 := dec_f (show ¬ (0 : Int) ≤ (ss.length : Int) - 1 - (ss.length : Int) by omega)
        have hbk := fun w hc ha hb => impl_walk g2 0 d2 (bkL n f ss.length ss.length) w (by rw [bkL_length]; omega) hc (OwnV.cap2 HOW.out) (bkL_sizes n f _ _ h8) hb ha
        rw [of_wk (wk_back HWK.out), bkL_length] at hbk
        have hil : ys'.length % ss.length < ss.length := Nat.mod_lt _ hpos
        obtain ⟨r1, r2⟩ := rem_nat (a := ys'.length) hpos
        generalize ys'.length % ss.length = i at *
        have htk := fun w ha hb => impl_walk g 0 d (ss.take (1 + i)) w (by simp; omega) (by simp; omega) hd (fun s hs => HIN.out s (List.mem_of_mem_take hs)) hb ha
        rw [of_wk (wk_take HWK.out (1 + i) (by omega) (by omega)), show (ss.take (1 + i)).length = 1 + i by simp; omega] at htk
        have HBK := Lib.hid hbk
        have HTK := Lib.hid htk
        have ip0 : ¬ (ss.length : Int) = 0 := by omega
        have im1 : (1 : Int) + (i : Int) ≤ (d : Int) := by omega
        have im2 : (0 : Int) ≤ 1 + (i : Int) := by omega
        have im3 : ((1 : Int) + (i : Int)).toNat = 1 + i := by omega
        have hcap := OwnV.cap HOW.out
        clear hbk htk
        go_wp2_with fail
        refine (HBK.out _ hcap (OwnSM.at HOW.out) HOW.out.lt).mono ?_
        rintro e w4 ⟨rfl, hb4⟩
        have A4 := Lib.hid ((HA.out.take (1 + i)).below hb4 HL.out)
        have L4 := Lib.hid (Nat.lt_of_lt_of_le HL.out hb4.size)
        have B4 := Lib.hid (below_to HBE.out hb4 HBE.out.size)
        clear hb4
        go_wp2_with fail
        refine (HTK.out _ A4.out L4.out).mono ?_
        rintro e w5 ⟨rfl, hb5⟩
        have B5 := Lib.hid (below_to B4.out hb5 B4.out.size)
        clear hb5
        go_wp2_with fail
        go_ret
        exact ⟨rfl, B5.out⟩
  · have hv' : walkB ss = false := by simpa using hv
    rw [hv']
    clear hv hv'
    go_wp2_with fail
    go_ret
    exact ⟨rfl, B3.out⟩

end Go.Proofs.Ytkfgimhihknpoaa
