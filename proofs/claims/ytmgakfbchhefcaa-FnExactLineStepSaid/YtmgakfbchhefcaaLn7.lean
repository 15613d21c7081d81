/-
  Lines: LineValid, LineWaits, LineIn of the program and of the reference. No condition.
-/
import Derived.Test.YtmgakfbchhefcaaLn6
namespace Go.Proofs.Ytmgakfbchhefcaa
open Go.RowKit
set_option linter.unusedVariables false
set_option linter.unusedSimpArgs false

set_option maxHeartbeats 800000 in
theorem implValid_any (b c t c' : Nat) (bs : List BV) (ts : List Int) (w : World) (hn : bs.length ≤ 1048576) (hm : ts.length ≤ 1048576) (hb : b < w.heap.size) (ht : t < w.heap.size) (ha : AtBl w b 0 bs) (hi : AtInts w t 0 ts) :
    Calls Try.prog 32 #[.agg #[.slice (some ⟨b, 0, none⟩) bs.length c, .slice (some ⟨t, 0, none⟩) ts.length c']] w fun e w' => e = .returned (.bool (lineB bs ts)) ∧ Below w.heap.size w w' := by
  have hL := LnAt.new (c := c) (c' := c') hb ht ha hi
  have HRW := Lib.hid (railwayOf_any b c t c' bs ts _ hn hm hL.2.2.2.1 hL.2.2.2.2 hL.2.1 hL.2.2.1)
  have BW := Lib.hid (below_new w (.cells #[.slice (some ⟨b, 0, none⟩) bs.length c, .slice (some ⟨t, 0, none⟩) ts.length c'] 32))
  clear hL
  generalize lineB bs ts = V at *
  go_enter Try.func32, Try.ntmps32
  go_wp2_with (go_at_call 51; go_must (go_fit HRW.out; rintro e w2 ⟨p, rfl, hb2, hv2⟩; have B2 := Lib.hid (below_to BW.out hb2 BW.out.size); clear hb2 hv2))
  go_ret
  exact ⟨rfl, B2.out⟩

/-- How many trains wait at a box. -/
def waitV (bs : List BV) (ts : List Int) (k : Int) : Int := if lineB bs ts && inB 0 bs.length k then (cntT ts (2 * k) ts.length : Int) else -1
theorem waitV_f {bs : List BV} {ts : List Int} {k : Int} (h : lineB bs ts = false) : waitV bs ts k = -1 := by unfold waitV; rw [h]; rfl
theorem waitV_n {bs : List BV} {ts : List Int} {k : Int} (h : inB 0 bs.length k = false) : waitV bs ts k = -1 := by unfold waitV; rw [h]; simp
theorem waitV_t {bs : List BV} {ts : List Int} {k : Int} (h : lineB bs ts = true) (h' : inB 0 bs.length k = true) : waitV bs ts k = cntT ts (2 * k) ts.length := by unfold waitV; rw [h, h']; rfl

set_option maxHeartbeats 800000 in
theorem implWaits_any (b c t c' : Nat) (bs : List BV) (ts : List Int) (k : Int) (w : World) (hn : bs.length ≤ 1048576) (hm : ts.length ≤ 1048576) (hb : b < w.heap.size) (ht : t < w.heap.size) (ha : AtBl w b 0 bs) (hi : AtInts w t 0 ts) :
    Calls Try.prog 33 #[.agg #[.slice (some ⟨b, 0, none⟩) bs.length c, .slice (some ⟨t, 0, none⟩) ts.length c'], .int .i64 k] w fun e w' => e = .returned (.int .i64 (waitV bs ts k)) ∧ Below w.heap.size w w' := by
  have hL := LnAt.new (c := c) (c' := c') hb ht ha hi
  have hrw := railwayOf_any b c t c' bs ts _ hn hm hL.2.2.2.1 hL.2.2.2.2 hL.2.1 hL.2.2.1
  have BW := Lib.hid (below_new w (.cells #[.slice (some ⟨b, 0, none⟩) bs.length c, .slice (some ⟨t, 0, none⟩) ts.length c'] 32))
  clear hL
  by_cases hV : lineB bs ts = true
  · have h5 := lineB_n hV
    rw [hV] at hrw
    have HRW := Lib.hid hrw
    have HCN := Lib.hid (fun R g d g' d' W h => count_any R g d g' d' bs ts (2 * k) W hm h)
    by_cases hk : 0 ≤ k ∧ k ≤ (bs.length : Int)
    · rw [waitV_t hV (inB_true hk)]
      have t1 := dec_f (show ¬ k < 0 by omega)
      have t2 := dec_f (show ¬ (bs.length : Int) < k by omega)
      have u1 : IntKind.i64.wrap (2 * k) = 2 * k := IntWalk.i64_in _ (by omega)
      clear hV hrw
      generalize cntT ts (2 * k) ts.length = C at *
      go_enter Try.func33, Try.ntmps33
      go_wp2_with (first | (go_at_call 51; go_must (go_fit HRW.out; rintro e w2 ⟨p, rfl, hb2, hv2⟩; obtain ⟨R, g, d, g', d', rfl, hr2⟩ := hv2 rfl; have B2 := Lib.hid (below_to BW.out hb2 BW.out.size); have R2 := Lib.hid hr2; have r0 := hr2.cell0; have r1 := hr2.cell1; clear hb2 hv2 hr2)) | (go_at_call 71; go_must (go_fit (HCN.out _ _ _ _ _ _ R2.out.rw); rintro e w3 ⟨rfl, rfl⟩)))
      go_ret
      exact ⟨rfl, B2.out⟩
    · have hk' : k < 0 ∨ (bs.length : Int) < k := by omega
      rw [waitV_n (inB_false hk')]
      by_cases h0 : k < 0
      · have t1 := dec_t h0
        clear hV hrw
        go_enter Try.func33, Try.ntmps33
        go_wp2_with (first | (go_at_call 51; go_must (go_fit HRW.out; rintro e w2 ⟨p, rfl, hb2, hv2⟩; obtain ⟨R, g, d, g', d', rfl, hr2⟩ := hv2 rfl; have B2 := Lib.hid (below_to BW.out hb2 BW.out.size); have R2 := Lib.hid hr2; have r0 := hr2.cell0; have r1 := hr2.cell1; clear hb2 hv2 hr2)))
        go_ret
        exact ⟨rfl, B2.out⟩
      · have t1 := dec_f h0
        have t2 := dec_t (show (bs.length : Int) < k by omega)
        clear hV hrw
        go_enter Try.func33, Try.ntmps33
        go_wp2_with (first | (go_at_call 51; go_must (go_fit HRW.out; rintro e w2 ⟨p, rfl, hb2, hv2⟩; obtain ⟨R, g, d, g', d', rfl, hr2⟩ := hv2 rfl; have B2 := Lib.hid (below_to BW.out hb2 BW.out.size); have R2 := Lib.hid hr2; have r0 := hr2.cell0; have r1 := hr2.cell1; clear hb2 hv2 hr2)))
        go_ret
        exact ⟨rfl, B2.out⟩
  · have hV' : lineB bs ts = false := by simpa using hV
    rw [hV'] at hrw
    rw [waitV_f hV']
    have HRW := Lib.hid hrw
    clear hV hV' hrw
    go_enter Try.func33, Try.ntmps33
    go_wp2_with (go_at_call 51; go_must (go_fit HRW.out; rintro e w2 ⟨p, rfl, hb2, hv2⟩; have B2 := Lib.hid (below_to BW.out hb2 BW.out.size); clear hb2 hv2))
    go_ret
    exact ⟨rfl, B2.out⟩

set_option maxHeartbeats 800000 in
theorem specWaits_any (b c t c' : Nat) (bs : List BV) (ts : List Int) (k : Int) (w : World) (hn : bs.length ≤ 1048576) (hm : ts.length ≤ 1048576) (hb : b < w.heap.size) (ht : t < w.heap.size) (ha : AtBl w b 0 bs) (hi : AtInts w t 0 ts) :
    Calls Try.prog 37 #[.agg #[.slice (some ⟨b, 0, none⟩) bs.length c, .slice (some ⟨t, 0, none⟩) ts.length c'], .int .i64 k] w fun e w' => e = .returned (.int .i64 (waitV bs ts k)) ∧ Below w.heap.size w w' := by
  have hL := LnAt.new (c := c) (c' := c') hb ht ha hi
  have hvl := specValid_any b c t c' bs ts _ hn hm hL.2.2.2.1 hL.2.2.2.2 hL.2.1 hL.2.2.1
  have HL := Lib.hid hL
  have BW := Lib.hid (below_new w (.cells #[.slice (some ⟨b, 0, none⟩) bs.length c, .slice (some ⟨t, 0, none⟩) ts.length c'] 32))
  have h6 := fun w => l6In_any k 0 (bs.length : Int) w
  clear hL
  by_cases hV : lineB bs ts = true
  · have h5 := lineB_n hV
    rw [hV] at hvl
    have HVL := Lib.hid hvl
    by_cases hk : 0 ≤ k ∧ k ≤ (bs.length : Int)
    · rw [waitV_t hV (inB_true hk)]
      rw [inB_true hk] at h6
      have H6 := Lib.hid h6
      have u1 : IntKind.i64.wrap (2 * k) = 2 * k := IntWalk.i64_in _ (by omega)
      clear hV h6 hvl
      go_enter Try.func37, Try.ntmps37
      go_wp2_with (first | (go_at_call 36; go_must (go_fit HVL.out; rintro e w2 ⟨rfl, hb2⟩; have B2 := Lib.hid (below_to BW.out hb2 BW.out.size); have L2 := Lib.hid (HL.out.below hb2); have c0 := L2.out.cell0; have c1 := L2.out.cell1; clear hb2)) | (go_at_call 70; go_must (go_fit (H6.out _); rintro e w3 ⟨rfl, rfl⟩)))
      go_loop [5, 6] (fun q i => ∃ j : Nat, j ≤ ts.length ∧ i = .int .i64 j ∧ q = .int .i64 (cntT ts (2 * k) j : Int)) (fun _ i => ts.length - (intOf i).toNat)
      case atStart => exact ⟨0, Nat.zero_le _, rfl, rfl⟩
      case round =>
        obtain ⟨j, hj, rfl, rfl⟩ := hrel
        have hle := cntT_le ts (2 * k) j
        by_cases hlt : j < ts.length
        · have hc := L2.out.2.2.1.at0 hlt
          have i2 : (j : Int) < (ts.length : Int) := by omega
          obtain ⟨x, hx⟩ : ∃ x, ts.getD j 0 = x := ⟨_, rfl⟩
          rw [hx] at hc
          by_cases he : x = 2 * k
          · have HE : Hid (cntT ts (2 * k) (j + 1) = cntT ts (2 * k) j + 1) := Lib.hid (by simp only [cntT, hx, he, if_true])
            have t1 := beq_t he
            clear hx he
            generalize cntT ts (2 * k) j = C at *
            go_wp2_with fail
            go_round
            case rel => exact ⟨j + 1, by omega, by go_num, by rw [HE.out]; go_num⟩
            case measure => simp [intOf]; omega
          · have HE : Hid (cntT ts (2 * k) (j + 1) = cntT ts (2 * k) j) := Lib.hid (by simp only [cntT, hx, he, if_false, Nat.add_zero])
            have t1 := beq_f he
            clear hx
            generalize cntT ts (2 * k) j = C at *
            go_wp2_with fail
            go_round
            case rel => exact ⟨j + 1, by omega, by go_num, by rw [HE.out]⟩
            case measure => simp [intOf]; omega
        · have hke : j = ts.length := by omega
          subst hke
          go_wp2_with fail
          go_ret
          exact ⟨rfl, B2.out⟩
    · have hk' : k < 0 ∨ (bs.length : Int) < k := by omega
      rw [waitV_n (inB_false hk')]
      rw [inB_false hk'] at h6
      have H6 := Lib.hid h6
      clear hV h6 hvl hk hk'
      go_enter Try.func37, Try.ntmps37
      go_wp2_with (first | (go_at_call 36; go_must (go_fit HVL.out; rintro e w2 ⟨rfl, hb2⟩; have B2 := Lib.hid (below_to BW.out hb2 BW.out.size); have L2 := Lib.hid (HL.out.below hb2); have c0 := L2.out.cell0; have c1 := L2.out.cell1; clear hb2)) | (go_at_call 70; go_must (go_fit (H6.out _); rintro e w3 ⟨rfl, rfl⟩)))
      go_ret
      exact ⟨rfl, B2.out⟩
  · have hV' : lineB bs ts = false := by simpa using hV
    rw [hV'] at hvl
    rw [waitV_f hV']
    have HVL := Lib.hid hvl
    clear hV hV' h6 hvl
    go_enter Try.func37, Try.ntmps37
    go_wp2_with (first | (go_at_call 36; go_must (go_fit HVL.out; rintro e w2 ⟨rfl, hb2⟩; have B2 := Lib.hid (below_to BW.out hb2 BW.out.size); have L2 := Lib.hid (HL.out.below hb2); have c0 := L2.out.cell0; have c1 := L2.out.cell1; clear hb2)))
    go_ret
    exact ⟨rfl, B2.out⟩

/-- The first of the first k trains that is at a place, or -1. -/
def atF (ts : List Int) (p : Int) : Nat → Int
  | 0 => -1
  | k + 1 => if atF ts p k = -1 then (if ts.getD k 0 = p then (k : Int) else -1) else atF ts p k
theorem atF_no {ts : List Int} {p : Int} {k : Nat} (h : atF ts p k = -1) (hx : ts.getD k 0 ≠ p) : atF ts p (k + 1) = -1 := by simp only [atF]; rw [if_pos h, if_neg hx]
theorem atF_stay {ts : List Int} {p : Int} {k n : Nat} (h : atF ts p k ≠ -1) (hn : k ≤ n) : atF ts p n = atF ts p k := by
  induction n with
  | zero => have : k = 0 := by omega
            rw [this]
  | succ n ih =>
    rcases Nat.lt_or_ge n k with h1 | h1
    · have : k = n + 1 := by omega
      rw [this]
    · have := ih h1
      simp only [atF]; rw [this, if_neg h]
theorem atF_hit {ts : List Int} {p : Int} {k n : Nat} (h : atF ts p k = -1) (hx : ts.getD k 0 = p) (hn : k < n) : atF ts p n = k := by
  have h1 : atF ts p (k + 1) = k := by simp only [atF]; rw [if_pos h, if_pos hx]
  rw [atF_stay (k := k + 1) (by rw [h1]; omega) hn, h1]
theorem atF_bd (ts : List Int) (p : Int) (k : Nat) : -1 ≤ atF ts p k ∧ atF ts p k < k := by
  induction k with
  | zero => simp [atF]
  | succ k ih =>
    simp only [atF]
    split
    · split <;> omega
    · omega

set_option maxHeartbeats 800000 in
theorem index_any (b c : Nat) (ts : List Int) (p : Int) (w : World) (hm : ts.length ≤ 1048576) (hi : AtInts w b 0 ts) :
    Calls Try.prog 76 #[.slice (some ⟨b, 0, none⟩) ts.length c, .int .i64 p] w fun e w' => e = .returned (.int .i64 (atF ts p ts.length)) ∧ w = w' := by
  obtain ⟨V, hV⟩ : ∃ V, atF ts p ts.length = V := ⟨_, rfl⟩
  have HV := Lib.hid hV
  rw [hV]
  have HI := Lib.hid hi
  clear hV hi
  go_enter Try.func76, Try.ntmps76
  go_wp2_with fail
  go_loop [5, 8] (fun a i => ∃ j : Nat, j ≤ ts.length ∧ i = .int .i64 j ∧ atF ts p j = -1) (fun _ i => ts.length - (intOf i).toNat)
  case atStart => exact ⟨0, Nat.zero_le _, rfl, rfl⟩
  case round =>
    obtain ⟨j, hj, rfl, hf⟩ := hrel
    have HF := Lib.hid hf
    clear hf
    by_cases hlt : j < ts.length
    · have hc := HI.out.at0 hlt
      have i2 : (j : Int) < (ts.length : Int) := by omega
      obtain ⟨x, hx⟩ : ∃ x, ts.getD j 0 = x := ⟨_, rfl⟩
      rw [hx] at hc
      by_cases he : x = p
      · have hVj : V = (j : Int) := HV.out.symm.trans (atF_hit HF.out (hx.trans he) hlt)
        subst hVj
        have t1 := beq_t he.symm
        clear hx he
        go_wp2_with fail
        go_ret
        exact ⟨rfl, rfl⟩
      · have HN := Lib.hid (atF_no HF.out (by rw [hx]; exact he))
        have t1 := beq_f (Ne.symm he)
        clear hx
        go_wp2_with fail
        go_round
        case rel => exact ⟨j + 1, by omega, by go_num, HN.out⟩
        case measure => simp [intOf]; omega
    · have hke : j = ts.length := by omega
      have hVm : V = -1 := by rw [← HV.out, ← hke]; exact HF.out
      subst hVm
      clear hke
      go_wp2_with fail
      go_ret
      exact ⟨rfl, rfl⟩

set_option maxHeartbeats 800000 in
theorem l4At_any (b c t c' : Nat) (bs : List BV) (ts : List Int) (p : Int) (w : World) (hm : ts.length ≤ 1048576) (hb : b < w.heap.size) (ht : t < w.heap.size) (ha : AtBl w b 0 bs) (hi : AtInts w t 0 ts) :
    Calls Try.prog 75 #[.agg #[.slice (some ⟨b, 0, none⟩) bs.length c, .slice (some ⟨t, 0, none⟩) ts.length c'], .int .i64 p] w fun e w' => e = .returned (.int .i64 (atF ts p ts.length)) ∧ Below w.heap.size w w' := by
  obtain ⟨V, hV⟩ : ∃ V, atF ts p ts.length = V := ⟨_, rfl⟩
  have HV := Lib.hid hV
  rw [hV]
  have HL := Lib.hid (LnAt.new (c := c) (c' := c') hb ht ha hi)
  have BW := Lib.hid (below_new w (.cells #[.slice (some ⟨b, 0, none⟩) bs.length c, .slice (some ⟨t, 0, none⟩) ts.length c'] 32))
  clear hV ha hi
  go_enter Try.func75, Try.ntmps75
  go_wp2_with fail
  generalize w.alloc (.cells #[.slice (some ⟨b, 0, none⟩) bs.length c, .slice (some ⟨t, 0, none⟩) ts.length c'] 32) = W1 at *
  have c0 := HL.out.cell0
  have c1 := HL.out.cell1
  go_loop [5] (fun i => ∃ j : Nat, j ≤ ts.length ∧ i = .int .i64 j ∧ atF ts p j = -1) (fun i => ts.length - (intOf i).toNat)
  case atStart => exact ⟨0, Nat.zero_le _, rfl, rfl⟩
  case round =>
    obtain ⟨j, hj, rfl, hf⟩ := hrel
    have HF := Lib.hid hf
    clear hf
    by_cases hlt : j < ts.length
    · have hc := HL.out.2.2.1.at0 hlt
      have i2 : (j : Int) < (ts.length : Int) := by omega
      obtain ⟨x, hx⟩ : ∃ x, ts.getD j 0 = x := ⟨_, rfl⟩
      rw [hx] at hc
      by_cases he : x = p
      · have hVj : V = (j : Int) := HV.out.symm.trans (atF_hit HF.out (hx.trans he) hlt)
        subst hVj
        have t1 := beq_t he
        clear hx he
        go_wp2_with fail
        go_ret
        exact ⟨rfl, BW.out⟩
      · have HN := Lib.hid (atF_no HF.out (by rw [hx]; exact he))
        have t1 := beq_f he
        clear hx
        go_wp2_with fail
        go_round
        case rel => exact ⟨j + 1, by omega, by go_num, HN.out⟩
        case measure => simp [intOf]; omega
    · have hke : j = ts.length := by omega
      have hVm : V = -1 := by rw [← HV.out, ← hke]; exact HF.out
      subst hVm
      clear hke
      go_wp2_with fail
      go_ret
      exact ⟨rfl, BW.out⟩

/-- The train in a section. -/
def inV (bs : List BV) (ts : List Int) (k : Int) : Int × Bool := if lineB bs ts && inB 0 ((bs.length : Int) - 1) k && decide (0 ≤ atF ts (2 * k + 1) ts.length) then (atF ts (2 * k + 1) ts.length, true) else (0, false)
theorem inV_f {bs : List BV} {ts : List Int} {k : Int} (h : lineB bs ts = false) : inV bs ts k = (0, false) := by unfold inV; rw [h]; rfl
theorem inV_n {bs : List BV} {ts : List Int} {k : Int} (h : inB 0 ((bs.length : Int) - 1) k = false) : inV bs ts k = (0, false) := by unfold inV; rw [h]; simp
theorem inV_m {bs : List BV} {ts : List Int} {k : Int} (h : atF ts (2 * k + 1) ts.length < 0) : inV bs ts k = (0, false) := by unfold inV; rw [dec_f (by omega)]; simp
theorem inV_t {bs : List BV} {ts : List Int} {k : Int} (h : lineB bs ts = true) (h' : inB 0 ((bs.length : Int) - 1) k = true) (h2 : 0 ≤ atF ts (2 * k + 1) ts.length) : inV bs ts k = (atF ts (2 * k + 1) ts.length, true) := by unfold inV; rw [h, h', dec_t h2]; rfl

set_option maxHeartbeats 800000 in
theorem implIn_any (b c t c' : Nat) (bs : List BV) (ts : List Int) (k : Int) (w : World) (hn : bs.length ≤ 1048576) (hm : ts.length ≤ 1048576) (hb : b < w.heap.size) (ht : t < w.heap.size) (ha : AtBl w b 0 bs) (hi : AtInts w t 0 ts) :
    Calls Try.prog 40 #[.agg #[.slice (some ⟨b, 0, none⟩) bs.length c, .slice (some ⟨t, 0, none⟩) ts.length c'], .int .i64 k] w fun e w' => e = .returned (.tuple #[.int .i64 (inV bs ts k).1, .bool (inV bs ts k).2]) ∧ Below w.heap.size w w' := by
  have hL := LnAt.new (c := c) (c' := c') hb ht ha hi
  have hrw := railwayOf_any b c t c' bs ts _ hn hm hL.2.2.2.1 hL.2.2.2.2 hL.2.1 hL.2.2.1
  have BW := Lib.hid (below_new w (.cells #[.slice (some ⟨b, 0, none⟩) bs.length c, .slice (some ⟨t, 0, none⟩) ts.length c'] 32))
  clear hL
  by_cases hV : lineB bs ts = true
  · have h5 := lineB_n hV
    rw [hV] at hrw
    have HRW := Lib.hid hrw
    have HIX := Lib.hid (fun b c W h => index_any b c ts (2 * k + 1) W hm h)
    by_cases hk : 0 ≤ k ∧ k ≤ (bs.length : Int) - 1
    · have t1 := dec_f (show ¬ k < 0 by omega)
      have t2 := dec_f (show ¬ (bs.length : Int) ≤ k by omega)
      have u1 : IntKind.i64.wrap (2 * k) = 2 * k := IntWalk.i64_in _ (by omega)
      have u2 : IntKind.i64.wrap (2 * k + 1) = 2 * k + 1 := IntWalk.i64_in _ (by omega)
      by_cases hx : 0 ≤ atF ts (2 * k + 1) ts.length
      · rw [inV_t hV (inB_true hk) hx]
        have t3 := dec_f (show ¬ atF ts (2 * k + 1) ts.length < 0 by omega)
        clear hV hrw
        generalize atF ts (2 * k + 1) ts.length = C at *
        go_enter Try.func40, Try.ntmps40
        go_wp2_with (first | (go_at_call 51; go_must (go_fit HRW.out; rintro e w2 ⟨p, rfl, hb2, hv2⟩; obtain ⟨R, g, d, g', d', rfl, hr2⟩ := hv2 rfl; have B2 := Lib.hid (below_to BW.out hb2 BW.out.size); have R2 := Lib.hid hr2; have r0 := hr2.cell0; have r1 := hr2.cell1; clear hb2 hv2 hr2)) | (go_at_call 76; go_must (go_fit (HIX.out _ _ _ R2.out.2.2.1.at); rintro e w3 ⟨rfl, rfl⟩)))
        go_ret2
        exact ⟨rfl, B2.out⟩
      · rw [inV_m (by omega)]
        have t3 := dec_t (show atF ts (2 * k + 1) ts.length < 0 by omega)
        clear hV hrw
        generalize atF ts (2 * k + 1) ts.length = C at *
        go_enter Try.func40, Try.ntmps40
        go_wp2_with (first | (go_at_call 51; go_must (go_fit HRW.out; rintro e w2 ⟨p, rfl, hb2, hv2⟩; obtain ⟨R, g, d, g', d', rfl, hr2⟩ := hv2 rfl; have B2 := Lib.hid (below_to BW.out hb2 BW.out.size); have R2 := Lib.hid hr2; have r0 := hr2.cell0; have r1 := hr2.cell1; clear hb2 hv2 hr2)) | (go_at_call 76; go_must (go_fit (HIX.out _ _ _ R2.out.2.2.1.at); rintro e w3 ⟨rfl, rfl⟩)))
        go_ret2
        exact ⟨rfl, B2.out⟩
    · have hk' : k < 0 ∨ (bs.length : Int) - 1 < k := by omega
      rw [inV_n (inB_false hk')]
      by_cases h0 : k < 0
      · have t1 := dec_t h0
        clear hV hrw
        go_enter Try.func40, Try.ntmps40
        go_wp2_with (first | (go_at_call 51; go_must (go_fit HRW.out; rintro e w2 ⟨p, rfl, hb2, hv2⟩; obtain ⟨R, g, d, g', d', rfl, hr2⟩ := hv2 rfl; have B2 := Lib.hid (below_to BW.out hb2 BW.out.size); have R2 := Lib.hid hr2; have r0 := hr2.cell0; have r1 := hr2.cell1; clear hb2 hv2 hr2)))
        go_ret2
        exact ⟨rfl, B2.out⟩
      · have t1 := dec_f h0
        have t2 := dec_t (show (bs.length : Int) ≤ k by omega)
        clear hV hrw
        go_enter Try.func40, Try.ntmps40
        go_wp2_with (first | (go_at_call 51; go_must (go_fit HRW.out; rintro e w2 ⟨p, rfl, hb2, hv2⟩; obtain ⟨R, g, d, g', d', rfl, hr2⟩ := hv2 rfl; have B2 := Lib.hid (below_to BW.out hb2 BW.out.size); have R2 := Lib.hid hr2; have r0 := hr2.cell0; have r1 := hr2.cell1; clear hb2 hv2 hr2)))
        go_ret2
        exact ⟨rfl, B2.out⟩
  · have hV' : lineB bs ts = false := by simpa using hV
    rw [hV'] at hrw
    rw [inV_f hV']
    have HRW := Lib.hid hrw
    clear hV hV' hrw
    go_enter Try.func40, Try.ntmps40
    go_wp2_with (go_at_call 51; go_must (go_fit HRW.out; rintro e w2 ⟨p, rfl, hb2, hv2⟩; have B2 := Lib.hid (below_to BW.out hb2 BW.out.size); clear hb2 hv2))
    go_ret2
    exact ⟨rfl, B2.out⟩

set_option maxHeartbeats 800000 in
theorem specIn_any (b c t c' : Nat) (bs : List BV) (ts : List Int) (k : Int) (w : World) (hn : bs.length ≤ 1048576) (hm : ts.length ≤ 1048576) (hb : b < w.heap.size) (ht : t < w.heap.size) (ha : AtBl w b 0 bs) (hi : AtInts w t 0 ts) :
    Calls Try.prog 39 #[.agg #[.slice (some ⟨b, 0, none⟩) bs.length c, .slice (some ⟨t, 0, none⟩) ts.length c'], .int .i64 k] w fun e w' => e = .returned (.tuple #[.int .i64 (inV bs ts k).1, .bool (inV bs ts k).2]) ∧ Below w.heap.size w w' := by
  have hL := LnAt.new (c := c) (c' := c') hb ht ha hi
  have hvl := specValid_any b c t c' bs ts _ hn hm hL.2.2.2.1 hL.2.2.2.2 hL.2.1 hL.2.2.1
  have HL := Lib.hid hL
  have BW := Lib.hid (below_new w (.cells #[.slice (some ⟨b, 0, none⟩) bs.length c, .slice (some ⟨t, 0, none⟩) ts.length c'] 32))
  have h6 := fun w => l6In_any k 0 ((bs.length : Int) - 1) w
  have u0 : IntKind.i64.wrap ((bs.length : Int) - 1) = (bs.length : Int) - 1 := IntWalk.i64_in _ (by omega)
  clear hL
  by_cases hV : lineB bs ts = true
  · have h5 := lineB_n hV
    rw [hV] at hvl
    have HVL := Lib.hid hvl
    by_cases hk : 0 ≤ k ∧ k ≤ (bs.length : Int) - 1
    · rw [inB_true hk] at h6
      have H6 := Lib.hid h6
      have u1 : IntKind.i64.wrap (2 * k) = 2 * k := IntWalk.i64_in _ (by omega)
      have u2 : IntKind.i64.wrap (2 * k + 1) = 2 * k + 1 := IntWalk.i64_in _ (by omega)
      have hat := fun W (h : LnAt W w.heap.size b c t c' bs ts) => l4At_any b c t c' bs ts (2 * k + 1) W hm h.2.2.2.1 h.2.2.2.2 h.2.1 h.2.2.1
      have HST : Hid (∀ W W', (Below w.heap.size w W ∧ LnAt W w.heap.size b c t c' bs ts) → Below W.heap.size W W' → (Below w.heap.size w W' ∧ LnAt W' w.heap.size b c t c' bs ts)) := Lib.hid fun W W' h k => ⟨below_to h.1 k h.1.size, h.2.below k⟩
      by_cases hx : 0 ≤ atF ts (2 * k + 1) ts.length
      · rw [inV_t hV (inB_true hk) hx]
        have t3 := dec_f (show ¬ atF ts (2 * k + 1) ts.length < 0 by omega)
        clear hV h6 hvl
        generalize atF ts (2 * k + 1) ts.length = C at *
        have HAT := Lib.hid hat
        clear hat
        go_enter Try.func39, Try.ntmps39
        go_wp2_with fail
        refine HVL.out.mono ?_
        rintro e w2 ⟨rfl, hb2⟩
        have S2 := Lib.hid (HST.out _ _ ⟨BW.out, HL.out⟩ hb2)
        have c0 := S2.out.2.cell0
        have c1 := S2.out.2.cell1
        clear hb2
        go_wp2_with (go_at_call 70; go_must (go_fit (H6.out _); rintro e w3 ⟨rfl, rfl⟩))
        refine (HAT.out _ S2.out.2).mono ?_
        rintro e w3 ⟨rfl, hb3⟩
        have S3 := Lib.hid (HST.out _ _ S2.out hb3)
        have d0 := S3.out.2.cell0
        have d1 := S3.out.2.cell1
        clear hb3 c0 c1
        go_wp2_with fail
        refine (HAT.out _ S3.out.2).mono ?_
        rintro e w4 ⟨rfl, hb4⟩
        have S4 := Lib.hid (HST.out _ _ S3.out hb4)
        clear hb4 d0 d1
        go_wp2_with fail
        go_ret2
        exact ⟨rfl, S4.out.1⟩
      · rw [inV_m (by omega)]
        have t3 := dec_t (show atF ts (2 * k + 1) ts.length < 0 by omega)
        clear hV h6 hvl
        generalize atF ts (2 * k + 1) ts.length = C at *
        have HAT := Lib.hid hat
        clear hat
        go_enter Try.func39, Try.ntmps39
        go_wp2_with fail
        refine HVL.out.mono ?_
        rintro e w2 ⟨rfl, hb2⟩
        have S2 := Lib.hid (HST.out _ _ ⟨BW.out, HL.out⟩ hb2)
        have c0 := S2.out.2.cell0
        have c1 := S2.out.2.cell1
        clear hb2
        go_wp2_with (go_at_call 70; go_must (go_fit (H6.out _); rintro e w3 ⟨rfl, rfl⟩))
        refine (HAT.out _ S2.out.2).mono ?_
        rintro e w3 ⟨rfl, hb3⟩
        have S3 := Lib.hid (HST.out _ _ S2.out hb3)
        clear hb3 c0 c1
        go_wp2_with fail
        go_ret2
        exact ⟨rfl, S3.out.1⟩
    · have hk' : k < 0 ∨ (bs.length : Int) - 1 < k := by omega
      rw [inV_n (inB_false hk')]
      rw [inB_false hk'] at h6
      have H6 := Lib.hid h6
      clear hV h6 hvl hk hk'
      go_enter Try.func39, Try.ntmps39
      go_wp2_with (first | (go_at_call 36; go_must (go_fit HVL.out; rintro e w2 ⟨rfl, hb2⟩; have B2 := Lib.hid (below_to BW.out hb2 BW.out.size); have L2 := Lib.hid (HL.out.below hb2); have c0 := L2.out.cell0; have c1 := L2.out.cell1; clear hb2)) | (go_at_call 70; go_must (go_fit (H6.out _); rintro e w3 ⟨rfl, rfl⟩)))
      go_ret2
      exact ⟨rfl, B2.out⟩
  · have hV' : lineB bs ts = false := by simpa using hV
    rw [hV'] at hvl
    rw [inV_f hV']
    have HVL := Lib.hid hvl
    clear hV hV' h6 hvl
    go_enter Try.func39, Try.ntmps39
    go_wp2_with (first | (go_at_call 36; go_must (go_fit HVL.out; rintro e w2 ⟨rfl, hb2⟩; have B2 := Lib.hid (below_to BW.out hb2 BW.out.size); have L2 := Lib.hid (HL.out.below hb2); have c0 := L2.out.cell0; have c1 := L2.out.cell1; clear hb2)))
    go_ret2
    exact ⟨rfl, B2.out⟩
end Go.Proofs.Ytmgakfbchhefcaa
