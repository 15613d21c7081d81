/-
  TrackValid and TrackBlocks of the program and of the reference. No condition but strings that have a length.
-/
import Derived.Test.YtkfgimhihknpoaaTk1
namespace Go.Proofs.Ytkfgimhihknpoaa
open Go.RowKit
set_option linter.unusedVariables false

/-- trackOf at a valid text. -/
theorem trackOf_yes (s n : Nat) (w : World) (h1 : 1 ≤ n) (h2 : n ≤ 8) (hs : s < 2 ^ n) :
    Calls Try.prog 38 #[.string (T s n)] w fun e w' => e = .returned (.tuple #[.agg #[.int .u16 s, .int .i64 n], .bool true]) ∧ Below w.heap.size w w' := by
  have h := trackOf_any (T s n) w (by rw [T_size]; omega)
  have ht := trB_of s n h1 h2
  have e1 : tset (T s n) = s := by unfold tset; rw [if_pos ht, T_data, T_size, tb_T s n hs]
  have e2 : tsz (T s n) = n := by unfold tsz; rw [if_pos ht, T_size]
  rw [e1, e2, ht] at h
  exact h
theorem trackOf_no (S : ByteArray) (w : World) (hs : S.size ≤ 9223372036854775807) (hf : trB S = false) :
    Calls Try.prog 38 #[.string S] w fun e w' => e = .returned (.tuple #[.agg #[.int .u16 0, .int .i64 0], .bool false]) ∧ Below w.heap.size w w' := by
  have h := trackOf_any S w hs
  have e1 : tset S = 0 := by simp [tset, hf]
  have e2 : tsz S = 0 := by simp [tsz, hf]
  rw [e1, e2, hf] at h
  exact h

set_option maxHeartbeats 400000 in
theorem spec_tv (S : ByteArray) (w : World) (hs : S.size ≤ 9223372036854775807) :
    Calls Try.prog 35 #[.string S] w fun e w' => e = .returned (.bool (trB S)) ∧ w = w' := by
  generalize hr : trB S = r
  have HR := Lib.hid hr
  clear hr
  go_enter Try.func35, Try.ntmps35
  go_wp2_with fail
  go_loop [3] (fun i => ∃ k : Nat, k ≤ S.size ∧ i = .int .i64 k ∧ (S.data.toList.take k).all okCh = true) (fun i => S.size - (intOf i).toNat)
  case atStart => exact ⟨0, Nat.zero_le _, rfl, rfl⟩
  case round =>
    obtain ⟨k, hk, rfl, ha⟩ := hrel
    have HA := Lib.hid ha
    clear ha
    by_cases hlt : k < S.size
    · obtain ⟨x, hx⟩ : ∃ x : UInt8, S[k] = x := ⟨_, rfl⟩
      have hall1 := S_all S k hlt HA.out
      have hno := S_no S k hlt
      rw [hx] at hall1 hno
      by_cases h0 : x = 48
      · have HALL := Lib.hid (hall1 (by rw [h0]; rfl))
        subst h0
        clear hall1 hno
        go_wp2_with (go_at_call 46; refine (l6In_any _ _ _ _).mono ?_; rintro e w' ⟨rfl, rfl⟩)
        go_round
        case rel => exact ⟨k + 1, by omega, by go_num, HALL.out⟩
        case measure => simp [intOf]; omega
      · by_cases h1 : x = 49
        · have HALL := Lib.hid (hall1 (by rw [h1]; rfl))
          subst h1
          clear hall1 hno h0
          go_wp2_with (go_at_call 46; refine (l6In_any _ _ _ _).mono ?_; rintro e w' ⟨rfl, rfl⟩)
          go_round
          case rel => exact ⟨k + 1, by omega, by go_num, HALL.out⟩
          case measure => simp [intOf]; omega
        · have HNO := Lib.hid (hno (by simp [okCh, h0, h1]))
          have n48 : ((x.toNat : Int) != 48) = true := by
            have : x.toNat ≠ 48 := fun h => h0 (UInt8.toNat_inj.1 h)
            simp; omega
          have n49 : ((x.toNat : Int) != 49) = true := by
            have : x.toNat ≠ 49 := fun h => h1 (UInt8.toNat_inj.1 h)
            simp; omega
          clear hall1 hno h0 h1
          go_wp2_with (go_at_call 46; refine (l6In_any _ _ _ _).mono ?_; rintro e w' ⟨rfl, rfl⟩)
          go_ret
          exact ⟨ret_bool (by rw [← HR.out]; unfold trB; rw [HNO.out]; simp), rfl⟩
    · have HT := Lib.hid (S_take S k hlt)
      go_wp2_with (go_at_call 46; refine (l6In_any _ _ _ _).mono ?_; rintro e w' ⟨rfl, rfl⟩)
      go_ret
      refine ⟨ret_bool ?_, rfl⟩
      rw [← HR.out]; unfold trB
      have := HA.out
      rw [HT.out] at this
      rw [this]; simp
theorem spec_tvT (s n : Nat) (w : World) (h1 : 1 ≤ n) (h2 : n ≤ 8) : Calls Try.prog 35 #[.string (T s n)] w fun e w' => e = .returned (.bool true) ∧ w = w' := by
  have h := spec_tv (T s n) w (by rw [T_size]; omega)
  rw [trB_of s n h1 h2] at h
  exact h



/-- The number of blocks that begin among the first k circuits. -/
def isBlk (s k : Nat) : Bool := s.testBit k && (decide (k = 0) || !s.testBit (k - 1))
def blk (s : Nat) : Nat → Nat
  | 0 => 0
  | k + 1 => if isBlk s k = true then blk s k + 1 else blk s k
theorem blk_le (s k : Nat) : blk s k ≤ k := by
  induction k with
  | zero => simp [blk]
  | succ k ih => simp only [blk]; split <;> omega
theorem ch_t {s k : Nat} (h : s.testBit k = true) : (if s.testBit k then (49 : UInt8) else 48) = 49 := by rw [h]; rfl
theorem ch_f {s k : Nat} (h : s.testBit k = false) : (if s.testBit k then (49 : UInt8) else 48) = 48 := by rw [h]; rfl


set_option maxHeartbeats 1600000 in
theorem impl_blocks (s n : Nat) (w : World) (h1 : 1 ≤ n) (h2 : n ≤ 8) (hs : s < 2 ^ n) :
    Calls Try.prog 22 #[.string (T s n)] w fun e w' => e = .returned (.int .i64 (blk s n)) ∧ Below w.heap.size w w' := by
  have hto := fun w => trackOf_yes s n w h1 h2 hs
  generalize T s n = S at *
  have hp8 := pow8 h2
  have hs16 : s < 65536 := by omega
  have HTO := Lib.hid hto
  clear hto hs hp8
  go_enter Try.func22, Try.ntmps22
  go_wp2_with (go_at_call 38; refine (HTO.out _).mono ?_; rintro e w1 ⟨rfl, hb1⟩; have B1 := Lib.hid hb1; have K1 := Lib.hid (Blk.new w1 54 #[.int .u16 s, .int .i64 n]); clear hb1)
  go_loopw [5, 16] (fun m q wr => ∃ k : Nat, k ≤ n ∧ q = .int .i64 k ∧ m = .int .i64 (blk s k) ∧ Blk wr w1.heap.size 54 #[.int .u16 s, .int .i64 n] ∧ Below w.heap.size w wr) (fun _ q _ => n - (intOf q).toNat)
  case atStart => exact ⟨0, Nat.zero_le _, rfl, rfl, K1.out, below_new' B1.out _⟩
  case round =>
    clear K1 B1
    obtain ⟨k, hk, rfl, rfl, hblk, hbel⟩ := hrel
    have c0 := hblk.cell 0
    have c1 := hblk.cell 1
    have hbl := blk_le s k
    have HK := Lib.hid hblk
    have HB := Lib.hid hbel
    clear hblk hbel
    by_cases hlt : k < n
    · have hocc := fun w => occ_any s n k w hs16 (by omega)
      have hstep : blk s (k + 1) = if isBlk s k = true then blk s k + 1 else blk s k := rfl
      by_cases hb : s.testBit k = true
      · rw [hb] at hocc
        have HOC := Lib.hid hocc
        clear hocc
        by_cases h0 : k = 0
        · have hs' : blk s (k + 1) = blk s k + 1 := by rw [hstep, if_pos (by unfold isBlk; rw [hb]; simp [h0])]
          have HS := Lib.hid hs'
          have t0 := beq_t (show (k : Int) = 0 by omega)
          have H0 := Lib.hid h0
          clear hstep hs' h0 hb
          go_wp2_with (go_at_call 47; refine (HOC.out _).mono ?_; rintro e w2 ⟨rfl, hb2⟩; have B2 := Lib.hid hb2; clear hb2)
          go_roundw
          case rel => exact ⟨k + 1, by omega, by go_num, by rw [HS.out]; go_num, HK.out.below B2.out HK.out.lt, below_to HB.out B2.out HB.out.size⟩
          case measure => simp [intOf]; omega
        · have t0 := beq_f (show (k : Int) ≠ 0 by omega)
          have hoc2 := fun w => occ_any s n (k - 1) w hs16 (by omega)
          obtain ⟨r, hr⟩ : ∃ r, s.testBit (k - 1) = r := ⟨_, rfl⟩
          rw [hr] at hoc2
          have hs' : blk s (k + 1) = if r = true then blk s k else blk s k + 1 := by
            rw [hstep]; unfold isBlk; rw [hb, hr]
            cases r <;> simp [h0]
          have HS := Lib.hid hs'
          have HO2 := Lib.hid hoc2
          clear hstep hs' hoc2 hr hb
          go_wp2_with fail
          refine (HOC.out _).mono ?_
          rintro e w2 ⟨rfl, hb2⟩
          have B2 := Lib.hid (below_to HB.out hb2 HB.out.size)
          have K2 := Lib.hid (HK.out.below hb2 HK.out.lt)
          clear hb2 c0 c1
          have c0 := K2.out.cell 0
          have c1 := K2.out.cell 1
          go_wp2_with fail
          have e1 : ((k : Int) - 1) = ((k - 1 : Nat) : Int) := by omega
          rw [e1]
          clear e1
          refine (HO2.out _).mono ?_
          rintro e w3 ⟨rfl, hb3⟩
          have B3 := Lib.hid (below_to B2.out hb3 B2.out.size)
          have K3 := Lib.hid (K2.out.below hb3 K2.out.lt)
          clear hb3
          cases r with
          | true =>
            go_wp2_with fail
            go_roundw
            case rel => exact ⟨k + 1, by omega, by go_num, by rw [HS.out]; rfl, K3.out, B3.out⟩
            case measure => simp [intOf]; omega
          | false =>
            go_wp2_with fail
            go_roundw
            case rel => exact ⟨k + 1, by omega, by go_num, by rw [HS.out]; go_num, K3.out, B3.out⟩
            case measure => simp [intOf]; omega
      · have hb' : s.testBit k = false := by simpa using hb
        rw [hb'] at hocc
        have HOC := Lib.hid hocc
        have hs' : blk s (k + 1) = blk s k := by rw [hstep, if_neg (by simp [isBlk, hb'])]
        have HS := Lib.hid hs'
        clear hstep hs' hb hocc hb'
        go_wp2_with (go_at_call 47; refine (HOC.out _).mono ?_; rintro e w2 ⟨rfl, hb2⟩; have B2 := Lib.hid hb2; clear hb2)
        go_roundw
        case rel => exact ⟨k + 1, by omega, by go_num, by rw [HS.out], HK.out.below B2.out HK.out.lt, below_to HB.out B2.out HB.out.size⟩
        case measure => simp [intOf]; omega
    · have hkn : k = n := by omega
      have HKN := Lib.hid hkn
      clear hkn
      go_wp2_with fail
      go_ret
      exact ⟨ret_int (by rw [HKN.out]), HB.out⟩
set_option maxHeartbeats 400000 in
theorem impl_blocks_no (S : ByteArray) (w : World) (hs : S.size ≤ 9223372036854775807) (hf : trB S = false) :
    Calls Try.prog 22 #[.string S] w fun e w' => e = .returned (.int .i64 (-1)) ∧ Below w.heap.size w w' := by
  go_enter Try.func22, Try.ntmps22
  go_wp2_with (go_at_call 38; refine (trackOf_no S _ hs hf).mono ?_; rintro e w1 ⟨rfl, hb1⟩; have B1 := Lib.hid hb1; clear hb1)
  go_ret
  exact ⟨rfl, below_new' B1.out _⟩
def blkV (S : ByteArray) : Int := if trB S = true then (blk (tset S) S.size : Int) else -1
theorem tset_T (s n : Nat) (h1 : 1 ≤ n) (h2 : n ≤ 8) (hs : s < 2 ^ n) : tset (T s n) = s := by unfold tset; rw [if_pos (trB_of s n h1 h2), T_data, T_size, tb_T s n hs]
theorem blkV_T (s n : Nat) (h1 : 1 ≤ n) (h2 : n ≤ 8) (hs : s < 2 ^ n) : blkV (T s n) = blk s n := by
  unfold blkV; rw [if_pos (trB_of s n h1 h2), tset_T s n h1 h2 hs, T_size]
theorem impl_blocksV (S : ByteArray) (w : World) (hs : S.size ≤ 9223372036854775807) :
    Calls Try.prog 22 #[.string S] w fun e w' => e = .returned (.int .i64 (blkV S)) ∧ Below w.heap.size w w' := by
  by_cases h : trB S = true
  · obtain ⟨s, n, h1, h2, hsn, rfl⟩ := trB_T h
    rw [blkV_T s n h1 h2 hsn]
    exact impl_blocks s n w h1 h2 hsn
  · have h' : trB S = false := by simpa using h
    rw [show blkV S = -1 by simp [blkV, h']]
    exact impl_blocks_no S w hs h'


end Go.Proofs.Ytkfgimhihknpoaa
