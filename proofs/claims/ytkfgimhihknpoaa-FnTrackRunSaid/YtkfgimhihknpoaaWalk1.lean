/-
  l7Is of the reference and near of the program. No condition but tracks.
-/
import Derived.Test.YtkfgimhihknpoaaTk5
import Derived.Test.YtkfgimhihknpoaaStrs
import Derived.Laws.StructEq
namespace Go.Proofs.Ytkfgimhihknpoaa
open Go.RowKit
set_option linter.unusedVariables false

/-- Whether one of the first k steps of (s, n) leads to s'. -/
def nearK (s n s' : Nat) : Nat → Bool
  | 0 => false
  | k + 1 => nearK s n s' k || (canB s n k && (s ^^^ 2 ^ k == s'))
def nearB (s n s' n' : Nat) : Bool := (n == n') && nearK s n s' n
theorem nearK_lt {s n s' k : Nat} (h : nearK s n s' k = true) : ∀ {m}, k ≤ m → nearK s n s' m = true := by
  intro m hm
  induction m with
  | zero => have : k = 0 := by omega
            subst this; exact h
  | succ m ih =>
    by_cases hk : k ≤ m
    · simp [nearK, ih hk]
    · have : k = m + 1 := by omega
      subst this; exact h
theorem nearK_hit {s n s' k m : Nat} (hk : k < m) (h1 : canB s n k = true) (h2 : s ^^^ 2 ^ k = s') : nearK s n s' m = true :=
  nearK_lt (k := k + 1) (by simp [nearK, h1, h2]) hk
theorem nearK_no {s n s' k : Nat} (h : nearK s n s' k = false) (h1 : canB s n k = false ∨ s ^^^ 2 ^ k ≠ s') : nearK s n s' (k + 1) = false := by
  simp only [nearK, h, Bool.false_or]
  rcases h1 with h1 | h1
  · simp [h1]
  · simp [h1]

theorem Qt.trans {a b c : World} (h1 : Qt a b) (h2 : Qt b c) : Qt a c := by
  obtain ⟨n, rfl⟩ := h1
  obtain ⟨m, rfl⟩ := h2
  exact ⟨n + m, World.drewN_drewN _ _ _⟩
theorem Hid.mk' {p : Prop} (h : p) : Hid p := h
set_option maxHeartbeats 1600000 in
theorem l7Is_any (s n s' n' : Nat) (w : World) (h1 : 1 ≤ n) (h2 : n ≤ 8) (hs : s < 2 ^ n) (hs' : s' < 2 ^ n') :
    Calls Try.prog 50 #[.string (T s n), .string (T s' n')] w fun e w' => e = .returned (.bool (nearB s n s' n')) ∧ Qt w w' := by
  have hz := T_size s n
  have hyes := fun i w => l7Step_yes s n i w h2
  have hno := fun i w => l7Step_no s n i w h2
  have hinj := fun i (hi : i < n) => T_inj (flip_lt hs hi) hs'
  have hinj2 : ∀ i, i < n → n = n' → s ^^^ 2 ^ i = s' → T (s ^^^ 2 ^ i) n = T s' n' := by intro i _ h1 h2; rw [h1, h2]
  generalize T s n = S at *
  generalize T s' n' = S' at *
  have HY := Lib.hid hyes
  have HN := Lib.hid hno
  have HI := Lib.hid hinj
  have HI2 := Lib.hid hinj2
  have z1 : S.size ≤ n := by omega
  have z2 : n ≤ S.size := by omega
  clear hz hyes hno hinj hinj2
  go_enter Try.func50, Try.ntmps50
  go_wp2_with fail
  go_loopw [5] (fun q wr => ∃ k : Nat, k ≤ n ∧ q = .int .i64 k ∧ Qt w wr ∧ (n = n' → nearK s n s' k = false)) (fun q _ => n - (intOf q).toNat)
  case atStart => exact ⟨0, by omega, rfl, ⟨0, rfl⟩, fun _ => rfl⟩
  case round =>
    obtain ⟨k, hk, rfl, hq, hnk⟩ := hrel
    have HQ := Lib.hid hq
    have HNK := Lib.hid hnk
    clear hq hnk
    by_cases hlt : k < n
    · have i0 : (k : Int) < (S.size : Int) := by omega
      by_cases hc : canB s n k = true
      · have hst := fun w => HY.out k w hlt hc
        have HST := Lib.hid hst
        clear hst
        obtain ⟨X, eX⟩ : ∃ X, T (s ^^^ 2 ^ k) n = X := ⟨_, rfl⟩
        have hi := HI.out k hlt
        have hi2 := HI2.out k hlt
        rw [eX] at hi hi2 HST
        by_cases hx : X = S'
        · have e := hi hx
          have HR := Lib.hid (show nearB s n s' n' = true by unfold nearB; rw [nearK_hit hlt hc e.1, e.2]; simp)
          have tx2 : (X.toList == S'.toList) = true := by rw [hx]; simp
          clear hi hi2 eX e hx
          go_wp2_with (go_at_call 36; refine (HST.out _).mono ?_; rintro e w1 ⟨rfl, hq1⟩; have Q1 := Lib.hid (HQ.out.trans hq1); clear hq1)
          go_ret
          exact ⟨ret_bool HR.out.symm, Q1.out⟩
        · have tx2 : (X.toList == S'.toList) = false := by simp; intro h; exact hx (toList_inj h)
          have HR : Hid (n = n' → nearK s n s' (k + 1) = false) := fun hn => nearK_no (HNK.out hn) (.inr fun h => hx (hi2 hn h))
          clear hi hi2 eX
          clear hx
          go_wp2_with (go_at_call 36; refine (HST.out _).mono ?_; rintro e w1 ⟨rfl, hq1⟩; have Q1 := Lib.hid (HQ.out.trans hq1); clear hq1)
          go_roundw
          case rel => exact ⟨k + 1, by omega, by go_num, Q1.out, HR.out⟩
          case measure => simp [intOf]; omega
      · have hc' : canB s n k = false := by simpa using hc
        have hst := fun w => HN.out k w hlt hc'
        have HST := Lib.hid hst
        have HR : Hid (n = n' → nearK s n s' (k + 1) = false) := fun hn => nearK_no (HNK.out hn) (.inl hc')
        clear hst hc hc'
        go_wp2_with (go_at_call 36; refine (HST.out _).mono ?_; rintro e w1 ⟨rfl, hq1⟩; have Q1 := Lib.hid (HQ.out.trans hq1); clear hq1)
        go_roundw
        case rel => exact ⟨k + 1, by omega, by go_num, Q1.out, HR.out⟩
        case measure => simp [intOf]; omega
    · have hr : nearB s n s' n' = false := by
        have hkn : k = n := by omega
        unfold nearB
        by_cases hn : n = n'
        · have := HNK.out hn
          rw [hkn] at this
          rw [this]; simp
        · simp [hn]
      have HR := Lib.hid hr
      clear hr
      go_wp2_with fail
      go_ret
      exact ⟨ret_bool HR.out.symm, HQ.out⟩

set_option maxHeartbeats 3200000 in
theorem near_any (s n s' n' : Nat) (w : World) (h2 : n ≤ 8) (hs : s < 65536) :
    Calls Try.prog 49 #[.agg #[.int .u16 s, .int .i64 n], .agg #[.int .u16 s', .int .i64 n']] w fun e w' => e = .returned (.bool (nearB s n s' n')) ∧ Below w.heap.size w w' := by
  by_cases hn : n = n'
  · subst hn
    have hnb : nearB s n s' n = nearK s n s' n := by simp [nearB]
    rw [hnb]
    clear hnb
    have HB := Lib.hid (below_new' (below_new w (.cells #[.int .u16 s, .int .i64 n] 54)) (.cells #[.int .u16 s', .int .i64 n] 54))
    have HK := Lib.hid ((Blk.new w 54 #[.int .u16 s, .int .i64 n]).alloc (.cells #[.int .u16 s', .int .i64 n] 54))
    have HL := Lib.hid (Blk.new (w.alloc (.cells #[.int .u16 s, .int .i64 n] 54)) 54 #[.int .u16 s', .int .i64 n])
    go_enter Try.func49, Try.ntmps49
    go_wp2_with fail
    go_loopw [13] (fun q wr => ∃ k : Nat, k ≤ n ∧ q = .int .i64 k ∧ Below w.heap.size w wr ∧ Blk wr w.heap.size 54 #[.int .u16 s, .int .i64 n] ∧ Blk wr (w.heap.size + 1) 54 #[.int .u16 s', .int .i64 n] ∧ nearK s n s' k = false) (fun q _ => n - (intOf q).toNat)
    case atStart => exact ⟨0, by omega, rfl, HB.out, HK.out, by have := HL.out; simp at this; exact this, rfl⟩
    case round =>
      obtain ⟨k, hk, rfl, hbel, hkk, hll, hnk⟩ := hrel
      clear HB HK HL
      have HB := Lib.hid hbel
      have HK := Lib.hid hkk
      have HL := Lib.hid hll
      have HNK := Lib.hid hnk
      have hl2 := hll.lt
      have hl1 := hkk.lt
      have a0 := hkk.cell 0
      have a1 := hkk.cell 1
      have b0 := hll.cell 0
      have b1 := hll.cell 1
      clear hbel hkk hll hnk
      by_cases hlt : k < n
      · have hcan := fun w => can_any s n k w hs h2 hlt
        by_cases hc : canB s n k = true
        · rw [hc] at hcan
          have hchg := fun w => chg_any s n k w hs (by omega)
          have HC := Lib.hid hcan
          have HG := Lib.hid hchg
          clear hcan hchg
          by_cases hx : s ^^^ 2 ^ k = s'
          · have HR := Lib.hid (nearK_hit hlt hc hx)
            have tx := beq_t (show ((s ^^^ 2 ^ k : Nat) : Int) = (s' : Int) by rw [hx])
            have tx' : ((s ^^^ 2 ^ k) == s') = true := by simpa using hx
            clear hc hx
            generalize s ^^^ 2 ^ k = x at *
            go_wp2_with fail
            first | (go_region_held3 (fun w' => w'.cell? ⟨w.heap.size, 0, none⟩ = some (.int .u16 s) ∧ w'.cell? ⟨w.heap.size, 1, none⟩ = some (.int .i64 n) ∧ w'.cell? ⟨w.heap.size + 1, 0, none⟩ = some (.int .u16 s') ∧ w'.cell? ⟨w.heap.size + 1, 1, none⟩ = some (.int .i64 n)) (go_keep) (first | (go_at_call 39; refine (HC.out _).mono ?_; rintro e w1 ⟨rfl, hb1⟩; have p0w1 : w1.cell? ⟨w.heap.size, 0, none⟩ = some (.int .u16 s) := (hb1.cell (p := ⟨w.heap.size, 0, none⟩) (by first | exact hl1 | simpa using hl1)).trans (by first | exact a0 | simpa using a0); have p1w1 : w1.cell? ⟨w.heap.size, 1, none⟩ = some (.int .i64 n) := (hb1.cell (p := ⟨w.heap.size, 1, none⟩) (by first | exact hl1 | simpa using hl1)).trans (by first | exact a1 | simpa using a1); have q0w1 : w1.cell? ⟨w.heap.size + 1, 0, none⟩ = some (.int .u16 s') := (hb1.cell (p := ⟨w.heap.size + 1, 0, none⟩) (by first | exact hl2 | simpa using hl2)).trans (by first | exact b0 | simpa using b0); have q1w1 : w1.cell? ⟨w.heap.size + 1, 1, none⟩ = some (.int .i64 n) := (hb1.cell (p := ⟨w.heap.size + 1, 1, none⟩) (by first | exact hl2 | simpa using hl2)).trans (by first | exact b1 | simpa using b1); have hsw1 := hb1.size) | (go_at_call 40; refine (HG.out _).mono ?_; rintro e w2 ⟨rfl, hb2⟩; have p0w2 : w2.cell? ⟨w.heap.size, 0, none⟩ = some (.int .u16 s) := (hb2.cell (p := ⟨w.heap.size, 0, none⟩) (by first | exact (Nat.lt_of_lt_of_le hl1 hsw1) | simpa using (Nat.lt_of_lt_of_le hl1 hsw1))).trans (by first | exact p0w1 | simpa using p0w1); have p1w2 : w2.cell? ⟨w.heap.size, 1, none⟩ = some (.int .i64 n) := (hb2.cell (p := ⟨w.heap.size, 1, none⟩) (by first | exact (Nat.lt_of_lt_of_le hl1 hsw1) | simpa using (Nat.lt_of_lt_of_le hl1 hsw1))).trans (by first | exact p1w1 | simpa using p1w1); have q0w2 : w2.cell? ⟨w.heap.size + 1, 0, none⟩ = some (.int .u16 s') := (hb2.cell (p := ⟨w.heap.size + 1, 0, none⟩) (by first | exact (Nat.lt_of_lt_of_le hl2 hsw1) | simpa using (Nat.lt_of_lt_of_le hl2 hsw1))).trans (by first | exact q0w1 | simpa using q0w1); have q1w2 : w2.cell? ⟨w.heap.size + 1, 1, none⟩ = some (.int .i64 n) := (hb2.cell (p := ⟨w.heap.size + 1, 1, none⟩) (by first | exact (Nat.lt_of_lt_of_le hl2 hsw1) | simpa using (Nat.lt_of_lt_of_le hl2 hsw1))).trans (by first | exact q1w1 | simpa using q1w1); have hsw2 := hb2.size))) | fail
            have B1 := Lib.hid (below_to (below_to HB.out.drew hb1 HB.out.size) hb2 (Nat.le_trans HB.out.size hb1.size))
            clear hb1 hb2
            go_wp2_with fail
            go_ret
            exact ⟨ret_bool HR.out.symm, B1.out⟩
          · have HR := Lib.hid (nearK_no HNK.out (.inr hx))
            have tx := beq_f (show ((s ^^^ 2 ^ k : Nat) : Int) ≠ (s' : Int) by omega)
            have tx' : ((s ^^^ 2 ^ k) == s') = false := by simpa using hx
            clear hc hx
            generalize s ^^^ 2 ^ k = x at *
            go_wp2_with fail
            first | (go_region_held3 (fun w' => w'.cell? ⟨w.heap.size, 0, none⟩ = some (.int .u16 s) ∧ w'.cell? ⟨w.heap.size, 1, none⟩ = some (.int .i64 n) ∧ w'.cell? ⟨w.heap.size + 1, 0, none⟩ = some (.int .u16 s') ∧ w'.cell? ⟨w.heap.size + 1, 1, none⟩ = some (.int .i64 n)) (go_keep) (first | (go_at_call 39; refine (HC.out _).mono ?_; rintro e w1 ⟨rfl, hb1⟩; have p0w1 : w1.cell? ⟨w.heap.size, 0, none⟩ = some (.int .u16 s) := (hb1.cell (p := ⟨w.heap.size, 0, none⟩) (by first | exact hl1 | simpa using hl1)).trans (by first | exact a0 | simpa using a0); have p1w1 : w1.cell? ⟨w.heap.size, 1, none⟩ = some (.int .i64 n) := (hb1.cell (p := ⟨w.heap.size, 1, none⟩) (by first | exact hl1 | simpa using hl1)).trans (by first | exact a1 | simpa using a1); have q0w1 : w1.cell? ⟨w.heap.size + 1, 0, none⟩ = some (.int .u16 s') := (hb1.cell (p := ⟨w.heap.size + 1, 0, none⟩) (by first | exact hl2 | simpa using hl2)).trans (by first | exact b0 | simpa using b0); have q1w1 : w1.cell? ⟨w.heap.size + 1, 1, none⟩ = some (.int .i64 n) := (hb1.cell (p := ⟨w.heap.size + 1, 1, none⟩) (by first | exact hl2 | simpa using hl2)).trans (by first | exact b1 | simpa using b1); have hsw1 := hb1.size) | (go_at_call 40; refine (HG.out _).mono ?_; rintro e w2 ⟨rfl, hb2⟩; have p0w2 : w2.cell? ⟨w.heap.size, 0, none⟩ = some (.int .u16 s) := (hb2.cell (p := ⟨w.heap.size, 0, none⟩) (by first | exact (Nat.lt_of_lt_of_le hl1 hsw1) | simpa using (Nat.lt_of_lt_of_le hl1 hsw1))).trans (by first | exact p0w1 | simpa using p0w1); have p1w2 : w2.cell? ⟨w.heap.size, 1, none⟩ = some (.int .i64 n) := (hb2.cell (p := ⟨w.heap.size, 1, none⟩) (by first | exact (Nat.lt_of_lt_of_le hl1 hsw1) | simpa using (Nat.lt_of_lt_of_le hl1 hsw1))).trans (by first | exact p1w1 | simpa using p1w1); have q0w2 : w2.cell? ⟨w.heap.size + 1, 0, none⟩ = some (.int .u16 s') := (hb2.cell (p := ⟨w.heap.size + 1, 0, none⟩) (by first | exact (Nat.lt_of_lt_of_le hl2 hsw1) | simpa using (Nat.lt_of_lt_of_le hl2 hsw1))).trans (by first | exact q0w1 | simpa using q0w1); have q1w2 : w2.cell? ⟨w.heap.size + 1, 1, none⟩ = some (.int .i64 n) := (hb2.cell (p := ⟨w.heap.size + 1, 1, none⟩) (by first | exact (Nat.lt_of_lt_of_le hl2 hsw1) | simpa using (Nat.lt_of_lt_of_le hl2 hsw1))).trans (by first | exact q1w1 | simpa using q1w1); have hsw2 := hb2.size))) | fail
            have B1 := Lib.hid (below_to (below_to HB.out.drew hb1 HB.out.size) hb2 (Nat.le_trans HB.out.size hb1.size))
            have K1 := Lib.hid ((HK.out.drew.below hb1 HK.out.lt).below hb2 (Nat.lt_of_lt_of_le HK.out.lt hb1.size))
            have L1 := Lib.hid ((HL.out.drew.below hb1 HL.out.lt).below hb2 (Nat.lt_of_lt_of_le HL.out.lt hb1.size))
            clear hb1 hb2
            go_wp2_with fail
            go_roundw
            case rel => exact ⟨k + 1, by omega, by go_num, B1.out, K1.out, L1.out, HR.out⟩
            case measure => simp [intOf]; omega
        · have hc' : canB s n k = false := by simpa using hc
          rw [hc'] at hcan
          have HC := Lib.hid hcan
          have HR := Lib.hid (nearK_no HNK.out (.inl hc'))
          clear hcan hc hc'
          go_wp2_with fail
          first | (go_region_with (first | (go_at_call 39; refine (HC.out _).mono ?_; rintro e w1 ⟨rfl, hb1⟩))) | fail
          all_goals
            have B1 := Lib.hid (below_to HB.out.drew hb1 HB.out.size)
            have K1 := Lib.hid (HK.out.drew.below hb1 HK.out.lt)
            have L1 := Lib.hid (HL.out.drew.below hb1 HL.out.lt)
            clear hb1
            go_wp2_with fail
            go_roundw
            case rel => exact ⟨k + 1, by omega, by go_num, B1.out, K1.out, L1.out, HR.out⟩
            case measure => simp [intOf]; omega
      · have hkn : k = n := by omega
        have HR := Lib.hid (show nearK s n s' n = false by have := HNK.out; rw [hkn] at this; exact this)
        clear hkn
        go_wp2_with fail
        go_ret
        exact ⟨ret_bool HR.out.symm, HB.out⟩
  · have hnb : nearB s n s' n' = false := by simp [nearB, hn]
    rw [hnb]
    have t0 := bne_t (show (n : Int) ≠ (n' : Int) by omega)
    clear hnb
    have HB := Lib.hid (below_new' (below_new w (.cells #[.int .u16 s, .int .i64 n] 54)) (.cells #[.int .u16 s', .int .i64 n'] 54))
    go_enter Try.func49, Try.ntmps49
    go_wp2_with fail
    go_ret
    exact ⟨rfl, HB.out⟩

end Go.Proofs.Ytkfgimhihknpoaa
