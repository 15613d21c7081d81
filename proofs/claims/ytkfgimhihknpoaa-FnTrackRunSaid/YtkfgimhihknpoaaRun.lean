/-
  l6Many, count, leftmost and TrackRun of the program and of the reference: both hand back the same list. No condition.
-/
import Derived.Test.YtkfgimhihknpoaaStrs
import Derived.Test.YtkfgimhihknpoaaTk1
import Derived.Test.YtkfgimhihknpoaaRunP
namespace Go.Proofs.Ytkfgimhihknpoaa
open Go.RowKit
set_option linter.unusedVariables false

set_option maxHeartbeats 800000 in
theorem l6Many_any (c : UInt8) (k : Nat) (w : World) (hk : k ≤ 1048576) :
    Calls Try.prog 53 #[.string ⟨#[c]⟩, .int .i64 k] w fun e w' => e = .returned (.string (rep k c)) ∧ w = w' := by
  have h1 : (⟨#[c]⟩ : ByteArray) = rep 1 c := rfl
  rw [h1]; clear h1
  go_enter Try.func53, Try.ntmps53
  go_wp2
  go_loop [0, 1, 5] (fun s q o => ∃ p r j : Nat, s = .string (rep r c) ∧ q = .int .i64 j ∧ o = .string (rep p c) ∧ p + r * j = k ∧ p ≤ k ∧ r ≤ 2 * k + 1 ∧ j ≤ k) (fun _ q _ => (intOf q).toNat)
  case atStart => exact ⟨0, 1, k, rfl, rfl, rfl, by omega, by omega, by omega, Nat.le_refl _⟩
  case round =>
    obtain ⟨p, r, j, rfl, rfl, rfl, hsum, hp, hr, hj⟩ := hrel
    by_cases hpos : 0 < j
    · have t0 := dec_t (show (0 : Int) < (j : Int) by omega)
      have hrj : r ≤ r * j := Nat.le_mul_of_pos_right _ hpos
      have hrk : r ≤ k := by omega
      have z1 := rep_size r c
      have z2 := rep_size p c
      have a1 := rep_app r r c
      have a2 := rep_app p r c
      generalize rep r c = X at *
      generalize hY : rep p c = Y at *
      have HY := Lib.hid hY
      clear hY
      have zx : X.size ≤ k := by omega
      have zy : Y.size ≤ k := by omega
      have HA1 := Lib.hid a1
      have HA2 := Lib.hid a2
      by_cases hodd : j % 2 = 1
      · have t1 := beq_t (show (j : Int) % 2 = 1 by omega)
        have hnew : p + r + (r + r) * (j / 2) = k := by
          have e : j = 2 * (j / 2) + 1 := by omega
          have : r * j = r * (2 * (j / 2)) + r := by
            conv => lhs; rw [e]
            rw [Nat.mul_add, Nat.mul_one]
          have e2 : r * (2 * (j / 2)) = (r + r) * (j / 2) := by rw [← Nat.mul_assoc, Nat.mul_two]
          omega
        have HN := Lib.hid hnew
        clear hsum hrj a1 a2 z1 z2 hnew
        go_wp2
        go_round
        case rel => exact ⟨p + r, r + r, j / 2, by rw [HA1.out], by go_num, by rw [HA2.out], HN.out, by have := HN.out; omega, by omega, by omega⟩
        case measure => simp [intOf]; omega
      · have t1 := beq_f (show (j : Int) % 2 ≠ 1 by omega)
        have hnew : p + (r + r) * (j / 2) = k := by
          have e : j = 2 * (j / 2) := by omega
          have : r * j = r * (2 * (j / 2)) := by
            conv => lhs; rw [e]
          have e2 : r * (2 * (j / 2)) = (r + r) * (j / 2) := by rw [← Nat.mul_assoc, Nat.mul_two]
          omega
        have HN := Lib.hid hnew
        clear hsum hrj a1 a2 z1 z2 hnew
        go_wp2
        go_round
        case rel => exact ⟨p, r + r, j / 2, by rw [HA1.out], by go_num, by rw [HY.out], HN.out, by omega, by omega, by omega⟩
        case measure => simp [intOf]; omega
    · have t0 := dec_f (show ¬ (0 : Int) < (j : Int) by omega)
      have hj0 : j = 0 := by omega
      have hpk : p = k := by rw [hj0] at hsum; simpa using hsum
      have HP := Lib.hid hpk
      clear hsum hj0 hpk
      go_wp2
      go_ret
      exact ⟨ret_str (by rw [HP.out]), rfl⟩

set_option maxHeartbeats 800000 in
theorem count_any (s n : Nat) (w : World) (hs : s < 65536) (hn : n ≤ 8) :
    Calls Try.prog 51 #[.agg #[.int .u16 s, .int .i64 n]] w fun e w' => e = .returned (.int .i64 (cnt s n)) ∧ Below w.heap.size w w' := by
  have HK := Lib.hid (Blk.new w 54 #[.int .u16 s, .int .i64 n])
  have HB := Lib.hid (below_new w (.cells #[.int .u16 s, .int .i64 n] 54))
  go_enter Try.func51, Try.ntmps51
  go_wp2_with fail
  go_loopw [3, 7] (fun m q wr => ∃ k : Nat, k ≤ n ∧ q = .int .i64 k ∧ m = .int .i64 (cnt s k) ∧ Blk wr w.heap.size 54 #[.int .u16 s, .int .i64 n] ∧ Below w.heap.size w wr) (fun _ q _ => n - (intOf q).toNat)
  case atStart => exact ⟨0, Nat.zero_le _, rfl, rfl, HK.out, HB.out⟩
  case round =>
    clear HK HB
    obtain ⟨k, hk, rfl, rfl, hblk, hbel⟩ := hrel
    have c0 := hblk.cell 0
    have c1 := hblk.cell 1
    have hbl := cnt_le s k
    have HK := Lib.hid hblk
    have HB := Lib.hid hbel
    clear hblk hbel
    by_cases hlt : k < n
    · have hocc := fun w => occ_any s n k w hs (by omega)
      have hstep : cnt s (k + 1) = if s.testBit k = true then cnt s k + 1 else cnt s k := rfl
      obtain ⟨r, hr⟩ : ∃ r, s.testBit k = r := ⟨_, rfl⟩
      rw [hr] at hocc hstep
      have HOC := Lib.hid hocc
      have HS := Lib.hid hstep
      clear hocc hstep hr
      cases r with
      | true =>
        go_wp2_with (go_at_call 47; refine (HOC.out _).mono ?_; rintro e w2 ⟨rfl, hb2⟩; have B2 := Lib.hid hb2; clear hb2)
        go_roundw
        case rel => exact ⟨k + 1, by omega, by go_num, by rw [HS.out]; go_num, HK.out.below B2.out HK.out.lt, below_to HB.out B2.out HB.out.size⟩
        case measure => simp [intOf]; omega
      | false =>
        go_wp2_with (go_at_call 47; refine (HOC.out _).mono ?_; rintro e w2 ⟨rfl, hb2⟩; have B2 := Lib.hid hb2; clear hb2)
        go_roundw
        case rel => exact ⟨k + 1, by omega, by go_num, by rw [HS.out]; rfl, HK.out.below B2.out HK.out.lt, below_to HB.out B2.out HB.out.size⟩
        case measure => simp [intOf]; omega
    · have hkn : k = n := by omega
      have HKN := Lib.hid hkn
      clear hkn
      go_wp2_with fail
      go_ret
      exact ⟨ret_int (by rw [HKN.out]), HB.out⟩

set_option maxHeartbeats 800000 in
theorem leftmost_any (s n a : Nat) (w : World) (hs : s < 65536) (hn : n ≤ 8) (ha : a < n) (hbit : s.testBit a = true) (hbef : ∀ i, i < a → s.testBit i = false) :
    Calls Try.prog 52 #[.agg #[.int .u16 s, .int .i64 n]] w fun e w' => e = .returned (.int .i64 a) ∧ Below w.heap.size w w' := by
  have HK := Lib.hid (Blk.new w 54 #[.int .u16 s, .int .i64 n])
  have HB := Lib.hid (below_new w (.cells #[.int .u16 s, .int .i64 n] 54))
  have HBF := Lib.hid hbef
  have HBT := Lib.hid hbit
  clear hbef hbit
  go_enter Try.func52, Try.ntmps52
  go_wp2_with fail
  go_loopw [6] (fun q wr => ∃ k : Nat, k ≤ a ∧ q = .int .i64 k ∧ Blk wr w.heap.size 54 #[.int .u16 s, .int .i64 n] ∧ Below w.heap.size w wr) (fun q _ => n - (intOf q).toNat)
  case atStart => exact ⟨0, Nat.zero_le _, rfl, HK.out, HB.out⟩
  case round =>
    clear HK HB
    obtain ⟨k, hk, rfl, hblk, hbel⟩ := hrel
    have c0 := hblk.cell 0
    have c1 := hblk.cell 1
    have HK := Lib.hid hblk
    have HB := Lib.hid hbel
    clear hblk hbel
    have hocc := fun w => occ_any s n k w hs (by omega)
    by_cases hlt : k < a
    · rw [HBF.out k hlt] at hocc
      have HOC := Lib.hid hocc
      clear hocc
      go_wp2_with (go_at_call 47; refine (HOC.out _).mono ?_; rintro e w2 ⟨rfl, hb2⟩; have B2 := Lib.hid hb2; clear hb2)
      go_roundw
      case rel => exact ⟨k + 1, by omega, by go_num, HK.out.below B2.out HK.out.lt, below_to HB.out B2.out HB.out.size⟩
      case measure => simp [intOf]; omega
    · have hka : k = a := by omega
      rw [show s.testBit k = true by rw [hka]; exact HBT.out] at hocc
      have HOC := Lib.hid hocc
      have HKA := Lib.hid hka
      clear hocc hka
      go_wp2_with (go_at_call 47; refine (HOC.out _).mono ?_; rintro e w2 ⟨rfl, hb2⟩; have B2 := Lib.hid hb2; clear hb2)
      go_ret
      exact ⟨ret_int (by rw [HKA.out]), below_to HB.out B2.out HB.out.size⟩

def trOk (n L : Int) : Bool := inB 1 8 n && inB 1 n L
def trV (n L : Int) : List ByteArray := if trOk n L = true then trl n.toNat L.toNat (2 * n.toNat) else []
theorem trV_length (n L : Int) : (trV n L).length ≤ 17 := by
  unfold trV
  split
  · rename_i h
    unfold trOk at h
    rw [Bool.and_eq_true] at h
    have := inB_iff.1 h.1
    rw [trl_length]
    omega
  · simp

set_option maxHeartbeats 1600000 in
theorem spec_trun (n L : Int) (w : World) : Calls Try.prog 30 #[.int .i64 n, .int .i64 L] w (NewStrsB w (trV n L) (trOk n L)) := by
  by_cases h1 : inB 1 8 n = true
  · by_cases h2 : inB 1 n L = true
    · have hok : trOk n L = true := by simp [trOk, h1, h2]
      have hv : trV n L = trl n.toNat L.toNat (2 * n.toNat) := by simp [trV, hok]
      rw [hok, hv]; clear hok hv
      have H1 := inB_iff.1 h1
      have H2 := inB_iff.1 h2
      obtain ⟨M, rfl⟩ := Int.eq_ofNat_of_zero_le (show 0 ≤ n by omega)
      obtain ⟨K, rfl⟩ := Int.eq_ofNat_of_zero_le (show 0 ≤ L by omega)
      rw [Int.toNat_natCast, Int.toNat_natCast]
      have b1 : 1 ≤ M := by omega
      have b2 : M ≤ 8 := by omega
      have b3 : 1 ≤ K := by omega
      have b4 : K ≤ M := by omega
      clear H1 H2
      have hinv := stp_inv M K b3
      have HINV := Lib.hid hinv
      clear hinv
      have hstart : trl M K 0 = [rep M 48] := by
        have e := T_seg 0 0 M (Nat.le_refl _) (by omega)
        have e1 : rep 0 48 ++ rep (0 - 0) 49 ++ rep (M - 0) 48 = rep M 48 := by
          show rep 0 48 ++ rep 0 48 ++ rep M 48 = rep M 48
          rw [rep_app, rep_app]; simp
        have e0 : trl M K 0 = [T (seg 0 0) M] := rfl
        rw [e0, ← e, e1]
      have HST := Lib.hid hstart
      clear hstart
      go_enter Try.func30, Try.ntmps30
      go_wp2_with (first | (go_at_call 46; refine (l6In_any _ _ _ _).mono ?_; rintro e w' ⟨rfl, rfl⟩) | (go_at_call 53; refine (l6Many_any 48 M _ (by omega)).mono ?_; rintro e w' ⟨rfl, rfl⟩))
      go_loopw [6, 7, 8] (fun v a b wr => ∃ m g d c : Nat, m ≤ 2 * M ∧ a = .int .i64 (stp M K m).1 ∧ b = .int .i64 (stp M K m).2 ∧ v = .slice (some ⟨g, 0, none⟩) c d ∧ OwnSM wr w.heap.size g d c (trl M K m) ∧ Below w.heap.size w wr) (fun _ a b _ => 2 * M - (intOf a).toNat - (intOf b).toNat)
      case atStart => exact ⟨0, w.heap.size, 1, 1, by omega, rfl, rfl, rfl, by rw [HST.out]; exact ownSM_one w _ (Nat.le_refl _) _, below_new w _⟩
      case round =>
        clear HST
        obtain ⟨m, g, d, c, hm, rfl, rfl, rfl, hown, hbel⟩ := hrel
        have hi := HINV.out m hm
        have hnext : stp M K (m + 1) = if (stp M K m).2 < M ∧ (stp M K m).2 - (stp M K m).1 ≤ K then ((stp M K m).1, (stp M K m).2 + 1) else ((stp M K m).1 + 1, (stp M K m).2) := rfl
        have hlen := hown.len
        rw [trl_length] at hlen
        have hc : c ≤ 20 := by omega
        have hts := trl_succ M K m
        have htT : trT M K (m + 1) = T (seg (stp M K (m + 1)).1 (stp M K (m + 1)).2) M := rfl
        obtain ⟨A, hA⟩ : ∃ A, (stp M K m).1 = A := ⟨_, rfl⟩
        obtain ⟨B, hB⟩ : ∃ B, (stp M K m).2 = B := ⟨_, rfl⟩
        rw [hA, hB] at hi hnext ⊢
        have i1 := hi.1
        have i2 := hi.2.1
        have HSUM := Lib.hid hi.2.2
        have HOW := Lib.hid hown
        have HBE := Lib.hid hbel
        clear hi hlen hown hbel
        by_cases hlt : A < M
        · by_cases hgo : B < M ∧ B - A ≤ K
          · rw [if_pos hgo] at hnext
            rw [hnext] at htT
            have hseg := T_seg A (B + 1) M (by omega) (by omega)
            rw [← htT] at hseg
            have g1 := hgo.1
            have t1 := dec_t g1
            have t2 := dec_t (show (B : Int) - A ≤ K by have := hgo.2; omega)
            have q1 := rep_size A 48
            have q2 := rep_size (B + 1 - A) 49
            have q3 := rep_size (M - (B + 1)) 48
            have l1 := fun w => l6Many_any 48 A w (by omega)
            have l2 := fun w => l6Many_any 49 (B + 1 - A) w (by omega)
            have l3 := fun w => l6Many_any 48 (M - (B + 1)) w (by omega)
            have e2 : (((B + 1 - A : Nat)) : Int) = (B : Int) + 1 - A := by omega
            have e3 : ((M - (B + 1) : Nat) : Int) = (M : Int) - ((B : Int) + 1) := by omega
            rw [e2] at l2
            rw [e3] at l3
            generalize rep A 48 = X at *
            generalize rep (B + 1 - A) 49 = Y at *
            generalize rep (M - (B + 1)) 48 = Z at *
            have z1 : X.size ≤ 8 := by omega
            have z2 : Y.size ≤ 8 := by omega
            have z3 : Z.size ≤ 8 := by omega
            have HL1 := Lib.hid l1
            have HL2 := Lib.hid l2
            have HL3 := Lib.hid l3
            have HSEG := Lib.hid hseg
            have HTS := Lib.hid hts
            have HN := Lib.hid hnext
            clear l1 l2 l3 hseg hts hnext htT hA hB e2 e3 q1 q2 q3 hgo
            go_wp2_with fail
            refine (HL1.out _).mono ?_
            rintro e w' ⟨rfl, rfl⟩
            go_wp2_with fail
            refine (HL2.out _).mono ?_
            rintro e w' ⟨rfl, rfl⟩
            go_wp2_with fail
            refine (HL3.out _).mono ?_
            rintro e w' ⟨rfl, rfl⟩
            go_wp2_with (at_builtin; refine wpList_app1s rfl (.tmp 39) (.tmp 52) rfl _ rfl HOW.out rfl (by omega) ?_; intro g' c' w' hown' hg' hat')
            rw [HSEG.out, ← HTS.out] at hown'
            have R := Lib.hid hown'
            have RB := Lib.hid (below_app HBE.out hg' HOW.out.le)
            clear hown' hg' hat'
            go_wp2_with fail
            go_roundw
            case rel => exact ⟨m + 1, g', c', c + 1, by have := HSUM.out; omega, by rw [HN.out], by rw [HN.out]; go_num, rfl, R.out, RB.out⟩
            case measure => simp [intOf]; omega
          · rw [if_neg hgo] at hnext
            rw [hnext] at htT
            by_cases g1 : B < M
            · have t1 := dec_t g1
              have t2 := dec_f (show ¬ (B : Int) - A ≤ K by omega)
              have hAB : A + 1 ≤ B := by omega
              have hseg := T_seg (A + 1) B M (by omega) (by omega)
              rw [← htT] at hseg
              have q1 := rep_size (A + 1) 48
              have q2 := rep_size (B - (A + 1)) 49
              have q3 := rep_size (M - B) 48
              have l1 := fun w => l6Many_any 48 (A + 1) w (by omega)
              have l2 := fun w => l6Many_any 49 (B - (A + 1)) w (by omega)
              have l3 := fun w => l6Many_any 48 (M - B) w (by omega)
              have e1 : ((A + 1 : Nat) : Int) = (A : Int) + 1 := by omega
              have e2 : (((B - (A + 1) : Nat)) : Int) = (B : Int) - ((A : Int) + 1) := by omega
              have e3 : ((M - B : Nat) : Int) = (M : Int) - (B : Int) := by omega
              rw [e1] at l1
              rw [e2] at l2
              rw [e3] at l3
              generalize rep (A + 1) 48 = X at *
              generalize rep (B - (A + 1)) 49 = Y at *
              generalize rep (M - B) 48 = Z at *
              have z1 : X.size ≤ 8 := by omega
              have z2 : Y.size ≤ 8 := by omega
              have z3 : Z.size ≤ 8 := by omega
              have HL1 := Lib.hid l1
              have HL2 := Lib.hid l2
              have HL3 := Lib.hid l3
              have HSEG := Lib.hid hseg
              have HTS := Lib.hid hts
              have HN := Lib.hid hnext
              clear l1 l2 l3 hseg hts hnext htT hA hB e1 e2 e3 q1 q2 q3 hgo
              go_wp2_with fail
              refine (HL1.out _).mono ?_
              rintro e w' ⟨rfl, rfl⟩
              go_wp2_with fail
              refine (HL2.out _).mono ?_
              rintro e w' ⟨rfl, rfl⟩
              go_wp2_with fail
              refine (HL3.out _).mono ?_
              rintro e w' ⟨rfl, rfl⟩
              go_wp2_with (at_builtin; refine wpList_app1s rfl (.tmp 39) (.tmp 52) rfl _ rfl HOW.out rfl (by omega) ?_; intro g' c' w' hown' hg' hat')
              rw [HSEG.out, ← HTS.out] at hown'
              have R := Lib.hid hown'
              have RB := Lib.hid (below_app HBE.out hg' HOW.out.le)
              clear hown' hg' hat'
              go_wp2_with fail
              go_roundw
              case rel => exact ⟨m + 1, g', c', c + 1, by have := HSUM.out; omega, by rw [HN.out]; go_num, by rw [HN.out], rfl, R.out, RB.out⟩
              case measure => simp [intOf]; omega
            · have t1 := dec_f g1
              have hAB : A + 1 ≤ B := by omega
              have hseg := T_seg (A + 1) B M (by omega) (by omega)
              rw [← htT] at hseg
              have q1 := rep_size (A + 1) 48
              have q2 := rep_size (B - (A + 1)) 49
              have q3 := rep_size (M - B) 48
              have l1 := fun w => l6Many_any 48 (A + 1) w (by omega)
              have l2 := fun w => l6Many_any 49 (B - (A + 1)) w (by omega)
              have l3 := fun w => l6Many_any 48 (M - B) w (by omega)
              have e1 : ((A + 1 : Nat) : Int) = (A : Int) + 1 := by omega
              have e2 : (((B - (A + 1) : Nat)) : Int) = (B : Int) - ((A : Int) + 1) := by omega
              have e3 : ((M - B : Nat) : Int) = (M : Int) - (B : Int) := by omega
              rw [e1] at l1
              rw [e2] at l2
              rw [e3] at l3
              generalize rep (A + 1) 48 = X at *
              generalize rep (B - (A + 1)) 49 = Y at *
              generalize rep (M - B) 48 = Z at *
              have z1 : X.size ≤ 8 := by omega
              have z2 : Y.size ≤ 8 := by omega
              have z3 : Z.size ≤ 8 := by omega
              have HL1 := Lib.hid l1
              have HL2 := Lib.hid l2
              have HL3 := Lib.hid l3
              have HSEG := Lib.hid hseg
              have HTS := Lib.hid hts
              have HN := Lib.hid hnext
              clear l1 l2 l3 hseg hts hnext htT hA hB e1 e2 e3 q1 q2 q3 hgo
              go_wp2_with fail
              refine (HL1.out _).mono ?_
              rintro e w' ⟨rfl, rfl⟩
              go_wp2_with fail
              refine (HL2.out _).mono ?_
              rintro e w' ⟨rfl, rfl⟩
              go_wp2_with fail
              refine (HL3.out _).mono ?_
              rintro e w' ⟨rfl, rfl⟩
              go_wp2_with (at_builtin; refine wpList_app1s rfl (.tmp 39) (.tmp 52) rfl _ rfl HOW.out rfl (by omega) ?_; intro g' c' w' hown' hg' hat')
              rw [HSEG.out, ← HTS.out] at hown'
              have R := Lib.hid hown'
              have RB := Lib.hid (below_app HBE.out hg' HOW.out.le)
              clear hown' hg' hat'
              go_wp2_with fail
              go_roundw
              case rel => exact ⟨m + 1, g', c', c + 1, by have := HSUM.out; omega, by rw [HN.out]; go_num, by rw [HN.out], rfl, R.out, RB.out⟩
              case measure => simp [intOf]; omega
        · have hA' : A = M := by omega
          have hB' : B = M := by omega
          have HM := Lib.hid (show m = 2 * M by have := HSUM.out; omega)
          clear hnext hts htT hA hB hA' hB'
          go_wp2_with fail
          go_ret2
          have ho := HOW.out
          rw [HM.out] at ho
          exact ⟨g, d, ret_slb ho.len, ho.own, HBE.out⟩
    · have h2' : inB 1 n L = false := by simpa using h2
      have hok : trOk n L = false := by simp [trOk, h2']
      have hv : trV n L = [] := by simp [trV, hok]
      rw [hok, hv]; clear hok hv h2
      go_enter Try.func30, Try.ntmps30
      go_wp2_with (go_at_call 46; refine (l6In_any _ _ _ _).mono ?_; rintro e w' ⟨rfl, rfl⟩)
      go_ret2
      exact ⟨_, _, rfl, ownSM_empty w _ (Nat.le_refl _), below_new w _⟩
  · have h1' : inB 1 8 n = false := by simpa using h1
    have hok : trOk n L = false := by simp [trOk, h1']
    have hv : trV n L = [] := by simp [trV, hok]
    rw [hok, hv]; clear hok hv h1
    go_enter Try.func30, Try.ntmps30
    go_wp2_with (go_at_call 46; refine (l6In_any _ _ _ _).mono ?_; rintro e w' ⟨rfl, rfl⟩)
    go_ret2
    exact ⟨_, _, rfl, ownSM_empty w _ (Nat.le_refl _), below_new w _⟩

end Go.Proofs.Ytkfgimhihknpoaa
