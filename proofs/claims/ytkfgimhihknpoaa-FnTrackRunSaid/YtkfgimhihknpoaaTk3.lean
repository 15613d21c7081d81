/-
  TrackTurn, l7Step and TrackStep of the program and of the reference. No condition but strings that have a length.
-/
import Derived.Test.YtkfgimhihknpoaaTk2
namespace Go.Proofs.Ytkfgimhihknpoaa
open Go.RowKit
set_option linter.unusedVariables false



set_option maxHeartbeats 1600000 in
theorem impl_turn (s n : Nat) (w : World) (h1 : 1 ≤ n) (h2 : n ≤ 8) (hs : s < 2 ^ n) :
    Calls Try.prog 24 #[.string (T s n)] w fun e w' => e = .returned (.tuple #[.string (T (revT s n) n), .bool true]) ∧ Below w.heap.size w w' := by
  have hto := fun w => trackOf_yes s n w h1 h2 hs
  generalize T s n = S at *
  have hp8 := pow8 h2
  have hs16 : s < 65536 := by omega
  have HTO := Lib.hid hto
  have HP8 := Lib.hid hp8
  clear hto hs hp8
  go_enter Try.func24, Try.ntmps24
  go_wp2_with (go_at_call 38; refine (HTO.out _).mono ?_; rintro e w1 ⟨rfl, hb1⟩; have B1 := Lib.hid hb1; have K1 := Lib.hid (Blk.new w1 54 #[.int .u16 s, .int .i64 n]); clear hb1)
  go_loopw [20] (fun q wr => ∃ k : Nat, k ≤ n ∧ q = .int .i64 k ∧ Blk wr w1.heap.size 54 #[.int .u16 s, .int .i64 n] ∧ Blk wr (w1.heap.size + 1) 54 #[.int .u16 (rv s n k), .int .i64 n] ∧ Below w.heap.size w wr) (fun q _ => n - (intOf q).toNat)
  case atStart => exact ⟨0, Nat.zero_le _, rfl, K1.out.alloc _, by simpa [rv] using Blk.new (w1.alloc (.cells #[.int .u16 s, .int .i64 n] 54)) 54 #[.int .u16 0, .int .i64 n], below_new' (below_new' B1.out _) _⟩
  case round =>
    have hsz : w.heap.size ≤ w1.heap.size := B1.out.size
    clear K1 B1
    obtain ⟨k, hk, rfl, hblk, hblk2, hbel⟩ := hrel
    have c0 := hblk.cell 0
    have c1 := hblk.cell 1
    have d0 := hblk2.cell 0
    have d1 := hblk2.cell 1
    have HK := Lib.hid hblk
    have HK2 := Lib.hid hblk2
    have HB := Lib.hid hbel
    clear hblk hblk2 hbel
    have hrl := rv_lt s n k hk
    have hr16 : rv s n k < 65536 := by have := HP8.out; omega
    by_cases hlt : k < n
    · have hocc := fun w => occ_any s n k w hs16 (by omega)
      have hstep : rv s n (k + 1) = if s.testBit k then rv s n k ^^^ 2 ^ (n - 1 - k) else rv s n k := rfl
      by_cases hb : s.testBit k = true
      · rw [hb] at hocc
        rw [if_pos hb] at hstep
        have hchg := fun w => chg_any (rv s n k) n (n - 1 - k) w hr16 (by omega)
        rw [← hstep] at hchg
        have HOC := Lib.hid hocc
        have HCH := Lib.hid hchg
        clear hocc hstep hb hchg hrl
        go_wp2_with fail
        refine (HOC.out _).mono ?_
        rintro e w2 ⟨rfl, hb2⟩
        have B2 := Lib.hid (below_to HB.out hb2 HB.out.size)
        have K2 := Lib.hid (HK.out.below hb2 HK.out.lt)
        have L2 := Lib.hid (HK2.out.below hb2 HK2.out.lt)
        clear hb2 c0 c1 d0 d1
        have c0 := K2.out.cell 0
        have c1 := K2.out.cell 1
        have d0 := L2.out.cell 0
        have d1 := L2.out.cell 1
        go_wp2_with fail
        have e1 : ((n : Int) - 1 - (k : Int)) = ((n - 1 - k : Nat) : Int) := by omega
        rw [e1]
        clear e1
        refine (HCH.out _).mono ?_
        rintro e w3 ⟨rfl, hb3⟩
        have B3 := Lib.hid (below_to B2.out hb3 B2.out.size)
        have K3 := Lib.hid (K2.out.below hb3 K2.out.lt)
        have L3 := Lib.hid (L2.out.below hb3 L2.out.lt)
        clear hb3 c0 c1 d0 d1
        have d0 := L3.out.cell 0
        have d1 := L3.out.cell 1
        have f0 := L3.out.frozen 0
        have f1 := L3.out.frozen 1
        go_wp2_with fail
        go_roundw
        case rel => exact ⟨k + 1, by omega, by go_num, (K3.out.far (by simp) _).far (by simp) _, (L3.out.set_ 0 _).set_ 1 _, (B3.out.setCell (by simp; omega) _).setCell (by simp; omega) _⟩
        case measure => simp [intOf]; omega
      · have hb' : s.testBit k = false := by simpa using hb
        rw [hb'] at hocc
        rw [if_neg hb] at hstep
        have HOC := Lib.hid hocc
        have HS := Lib.hid hstep
        clear hocc hstep hb hb'
        go_wp2_with (go_at_call 47; refine (HOC.out _).mono ?_; rintro e w2 ⟨rfl, hb2⟩; have B2 := Lib.hid hb2; clear hb2)
        go_roundw
        case rel => exact ⟨k + 1, by omega, by go_num, HK.out.below B2.out HK.out.lt, by rw [HS.out]; exact HK2.out.below B2.out HK2.out.lt, below_to HB.out B2.out HB.out.size⟩
        case measure => simp [intOf]; omega
    · have hkn : k = n := by omega
      have htx := fun w => text_any (rv s n k) n w hr16 h2
      have hrev : rv s n k = revT s n := by rw [hkn]; rfl
      rw [hrev] at htx
      rw [hrev] at d0
      have HTX := Lib.hid htx
      clear hkn htx hrev hrl hr16
      go_wp2_with (go_at_call 44; refine (HTX.out _).mono ?_; rintro e w2 ⟨rfl, hb2⟩; have B2 := Lib.hid hb2; clear hb2)
      go_ret2
      exact ⟨rfl, below_to HB.out B2.out HB.out.size⟩
set_option maxHeartbeats 400000 in
theorem impl_turn_no (S : ByteArray) (w : World) (hs : S.size ≤ 9223372036854775807) (hf : trB S = false) :
    Calls Try.prog 24 #[.string S] w fun e w' => e = .returned (.tuple #[.string ⟨#[]⟩, .bool false]) ∧ Below w.heap.size w w' := by
  go_enter Try.func24, Try.ntmps24
  go_wp2_with (go_at_call 38; refine (trackOf_no S _ hs hf).mono ?_; rintro e w1 ⟨rfl, hb1⟩; have B1 := Lib.hid hb1; clear hb1)
  go_ret2
  exact ⟨rfl, below_new' B1.out _⟩


end Go.Proofs.Ytkfgimhihknpoaa
