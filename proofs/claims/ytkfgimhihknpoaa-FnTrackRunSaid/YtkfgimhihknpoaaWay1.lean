/-
  The reference's l3Has and TrackWay. No condition but strings that have a length.
-/
import Derived.Test.YtkfgimhihknpoaaWayP
import Derived.Test.YtkfgimhihknpoaaTl1
namespace Go.Proofs.Ytkfgimhihknpoaa
open Go.RowKit
set_option linter.unusedVariables false

theorem toList_ne {a b : ByteArray} (h : a ≠ b) : (a.toList == b.toList) = false ∧ (a.toList != b.toList) = true := by
  have hn : a.toList ≠ b.toList := fun e => h (byteArray_ext (by rw [ByteArray.toList_eq, ByteArray.toList_eq] at e; exact e))
  exact ⟨by simpa using hn, by simpa using hn⟩

/-- Whether S is among the first k. -/
def hasSK (ss : List Bs) (S : Bs) : Nat → Bool
  | 0 => false
  | k + 1 => hasSK ss S k || decide (ss.getD k ByteArray.empty = S)
theorem hasSK_iff (ss : List Bs) (S : Bs) (k : Nat) (hk : k ≤ ss.length) : hasSK ss S k = true ↔ S ∈ ss.take k := by
  induction k with
  | zero => simp [hasSK]
  | succ k ih =>
    have hlt : k < ss.length := by omega
    have e : ss.getD k ByteArray.empty = ss[k] := by simp [List.getD, hlt]
    simp only [hasSK]
    rw [Bool.or_eq_true, ih (by omega), List.take_succ_eq_append_getElem hlt, e, decide_eq_true_eq, List.mem_append, List.mem_singleton]
    constructor
    · rintro (h | h)
      · exact .inl h
      · exact .inr h.symm
    · rintro (h | h)
      · exact .inl h
      · exact .inr h.symm
def hasS (ss : List Bs) (S : Bs) : Bool := hasSK ss S ss.length
theorem hasS_iff (ss : List Bs) (S : Bs) : hasS ss S = true ↔ S ∈ ss := by unfold hasS; rw [hasSK_iff _ _ _ (Nat.le_refl _), List.take_length]
set_option maxHeartbeats 800000 in
theorem l3Has_any (b off c : Nat) (ss : List Bs) (S : Bs) (w : World) (hn : ss.length ≤ 9223372036854775807) (ha : AtStrs w b off ss) :
    Calls Try.prog 37 #[.slice (some ⟨b, off, none⟩) ss.length c, .string S] w fun e w' => e = .returned (.bool (hasS ss S)) ∧ w = w' := by
  unfold hasS
  have HA := Lib.hid ha
  clear ha
  go_enter Try.func37, Try.ntmps37
  go_wp2_with fail
  go_loop [5] (fun q => ∃ k : Nat, k ≤ ss.length ∧ q = .int .i64 k ∧ hasSK ss S k = false) (fun q => ss.length - (intOf q).toNat)
  case atStart => exact ⟨0, by omega, rfl, rfl⟩
  case round =>
    obtain ⟨k, hk, rfl, hf⟩ := hrel
    have HF := Lib.hid hf
    clear hf
    by_cases hlt : k < ss.length
    · have hc := HA.out k hlt
      have i1 : (k : Int) < (ss.length : Int) := by omega
      obtain ⟨y, hy⟩ : ∃ y, ss.getD k ByteArray.empty = y := ⟨_, rfl⟩
      rw [hy] at hc
      by_cases hyx : y = S
      · have hr : hasSK ss S ss.length = true := by
          show hasS ss S = true
          rw [hasS_iff, ← hyx, ← hy]
          simp [List.getD, hlt]
        have HR := Lib.hid hr
        subst hyx
        clear hr hy
        go_wp2_with fail
        go_ret
        exact ⟨ret_bool HR.out.symm, rfl⟩
      · have hr : hasSK ss S (k + 1) = false := by
          simp only [hasSK]; rw [HF.out, hy, dec_f hyx]; rfl
        have HR := Lib.hid hr
        obtain ⟨t1, t2⟩ := toList_ne hyx
        clear hr hy hyx
        go_wp2_with fail
        go_round
        case rel => exact ⟨k + 1, by omega, by go_num, HR.out⟩
        case measure => simp [intOf]; omega
    · have hkn : k = ss.length := by omega
      have hr : hasSK ss S ss.length = false := by have := HF.out; rw [hkn] at this; exact this
      have HR := Lib.hid hr
      clear hr hkn
      go_wp2_with fail
      go_ret
      exact ⟨ret_bool HR.out.symm, rfl⟩

/-- What TrackWay hands back: the least number of steps between two tracks of one length, else -1. -/
def WayV (S S' : ByteArray) (v : Int) : Prop := if trB S = true ∧ trB S' = true ∧ S.size = S'.size then IsWay S.size (tset S) (tset S') v else v = -1
theorem WayV.uniq {S S' : ByteArray} {v v' : Int} (h : WayV S S' v) (h' : WayV S S' v') : v = v' := by
  unfold WayV at h h'
  split at h
  · rename_i hc; rw [if_pos hc] at h'; exact h.uniq h'
  · rename_i hc; rw [if_neg hc] at h'; rw [h, h']
theorem WayV.bd {S S' : ByteArray} {v : Int} (h : WayV S S' v) : -1 ≤ v ∧ v ≤ 256 := by
  unfold WayV at h
  split at h
  · exact h.bd
  · omega
def RetWay (S S' : ByteArray) (w : World) (e : Ending) (w' : World) : Prop := ∃ v : Int, e = .returned (.int .i64 v) ∧ WayV S S' v ∧ Below w.heap.size w w'

def qS (n : Nat) (L : List (Nat × Nat)) : List Bs := L.map fun p => T p.1 n
def qD (L : List (Nat × Nat)) : List Int := L.map fun p => (p.2 : Int)
theorem qS_get {n : Nat} {L : List (Nat × Nat)} {k : Nat} {c : Nat × Nat} (h : L[k]? = some c) : (qS n L).getD k ByteArray.empty = T c.1 n := by simp [qS, List.getD, h]
theorem qD_get {L : List (Nat × Nat)} {k : Nat} {c : Nat × Nat} (h : L[k]? = some c) : (qD L).getD k 0 = (c.2 : Int) := by simp [qD, List.getD, h]
theorem qS_mem {n a b k y : Nat} {L : List (Nat × Nat)} (h : Srch n a b k L) (hy : y < 2 ^ n) : (T y n ∈ qS n L) ↔ y ∈ L.map (·.1) := by
  unfold qS
  rw [List.mem_map, List.mem_map]
  constructor
  · rintro ⟨p, hp, he⟩; exact ⟨p, hp, (T_inj (h.reach p hp).2 hy he).1⟩
  · rintro ⟨p, hp, rfl⟩; exact ⟨p, hp, rfl⟩
/-- The two rows of the reference's search. -/
def WSt (w wr : World) (n : Nat) (L : List (Nat × Nat)) (g d g' d' m : Nat) : Prop :=
  OwnSM wr w.heap.size g d m (qS n L) ∧ OwnM wr w.heap.size g' d' m (qD L) ∧ g ≠ g' ∧ Below w.heap.size w wr ∧ m = L.length
theorem WSt.qt {w wr w1 : World} {n : Nat} {L : List (Nat × Nat)} {g d g' d' m : Nat} (h : WSt w wr n L g d g' d' m) (hq : Qt wr w1) : WSt w w1 n L g d g' d' m :=
  ⟨OwnV.below h.1 (hq.below wr.heap.size) h.1.lt, OwnV.below h.2.1 (hq.below wr.heap.size) h.2.1.lt, h.2.2.1, below_to h.2.2.2.1 (hq.below wr.heap.size) h.2.2.2.1.size, h.2.2.2.2⟩
theorem qS_snoc (n : Nat) (L : List (Nat × Nat)) (y d : Nat) : qS n L ++ [T y n] = qS n (L ++ [(y, d)]) := by simp [qS]
theorem qD_snoc (L : List (Nat × Nat)) (y d : Nat) : qD L ++ [((d : Nat) : Int)] = qD (L ++ [(y, d)]) := by simp [qD]
theorem ownM_oneAt (w : World) (s : Bs) : OwnM ((w.alloc (.cells #[.string s] 9)).alloc (.cells #[.int .i64 0] 3)) w.heap.size (w.heap.size + 1) 1 1 [0] := by
  have h : OwnV ((w.alloc (.cells #[.string s] 9)).alloc (.cells #[.int .i64 0] 3)) w.heap.size 3 1 (w.alloc (.cells #[.string s] 9)).heap.size 1 1 #[.int .i64 0].toList := OwnV.lit #[.int .i64 0] (by simp) (by unfold maxLen; omega) rfl
  simp only [World.size_alloc] at h
  exact h
set_option maxHeartbeats 6400000 in
theorem spec_way_yes (a b n : Nat) (w : World) (h1 : 1 ≤ n) (h2 : n ≤ 8) (ha : a < 2 ^ n) (hb : b < 2 ^ n) :
    Calls Try.prog 11 #[.string (T a n), .string (T b n)] w fun e w' => ∃ v : Int, e = .returned (.int .i64 v) ∧ IsWay n a b v ∧ Below w.heap.size w w' := by
  have htv := fun S w hs => spec_tv S w hs
  have hta := htv (T a n) w (by rw [T_size]; omega)
  have htb := htv (T b n) w (by rw [T_size]; omega)
  rw [trB_of a n h1 h2] at hta
  rw [trB_of b n h1 h2] at htb
  have hza := T_size a n
  have hzb := T_size b n
  have hbT : ∀ x, x < 2 ^ n → x ≠ b → T x n ≠ T b n := fun x hx hne he => hne (T_inj hx hb he).1
  have hO1 := ownSM_one w w.heap.size (Nat.le_refl _) (T a n)
  have HBT := Lib.hid hbT
  have HTA := Lib.hid hta
  have HTB := Lib.hid htb
  have HS0 := Lib.hid (srch_start b ha)
  have W0 : Hid (WSt w ((w.alloc (.cells #[.string (T a n)] 9)).alloc (.cells #[.int .i64 0] 3)) n [(a, 0)] w.heap.size 1 (w.heap.size + 1) 1 1) := Lib.hid ⟨OwnV.alloc hO1 _, ownM_oneAt w (T a n), by omega, below_new' (below_new w _) _, rfl⟩
  have HZ := Lib.hid hza
  have z1 : n ≤ (T a n).size := by omega
  have z2 : (T a n).size ≤ n := by omega
  have tz := bne_f (show ((T a n).size : Int) = ((T b n).size : Int) by omega)
  clear htv hbT hO1 hza hzb hta htb ha hb
  generalize hTa : T a n = Ta at *
  generalize hTb : T b n = Tb at *
  have HTb := Lib.hid hTb
  clear hTa hTb
  go_enter Try.func11, Try.ntmps11
  go_wp2_with fail
  refine HTA.out.mono ?_
  rintro e w' ⟨rfl, rfl⟩
  go_wp2_with fail
  refine HTB.out.mono ?_
  rintro e w' ⟨rfl, rfl⟩
  go_wp2_with fail
  go_loopw [5, 6, 7] (fun v v' q wr => ∃ (k g d g' d' m : Nat) (L : List (Nat × Nat)), k ≤ m ∧ q = .int .i64 k ∧ v = .slice (some ⟨g, 0, none⟩) m d ∧ v' = .slice (some ⟨g', 0, none⟩) m d' ∧ WSt w wr n L g d g' d' m ∧ Srch n a b k L) (fun _ _ q _ => 256 - (intOf q).toNat)
  case atStart => exact ⟨0, _, _, _, _, _, [(a, 0)], by omega, rfl, rfl, rfl, W0.out, HS0.out⟩
  case round =>
    clear W0 HS0
    obtain ⟨k, g, d, g', d', m, L, hk, rfl, rfl, rfl, hw, hs⟩ := hrel
    have hle := srch_len hs h2
    have hmL := hw.2.2.2.2
    have hm256 : m ≤ 256 := by omega
    have W1 := Lib.hid hw
    have S1 := Lib.hid hs
    have HML := Lib.hid hmL
    clear hw hs hmL
    by_cases hlt : k < m
    · have hkL : k < L.length := by have := HML.out; omega
      obtain ⟨c, hc⟩ : ∃ c, L[k]? = some c := ⟨_, List.getElem?_eq_getElem hkL⟩
      have hcl := (S1.out.reach c (List.mem_of_getElem? hc)).2
      have hcd := S1.out.dle k c hc
      have hcell := OwnSM.at W1.out.1 k (by simp [qS]; omega)
      have hcelld := (OwnM.own W1.out.2.1).at k (by simp [qD]; omega)
      rw [qS_get hc, Nat.zero_add] at hcell
      rw [qD_get hc, Nat.zero_add] at hcelld
      have i1 : (k : Int) < (m : Int) := by omega
      by_cases hcb : c.1 = b
      · have hTc : T c.1 n = Tb := by rw [hcb]; exact HTb.out
        have hway : IsWay n a b c.2 := srch_hit S1.out h2 (by rw [hc, ← hcb])
        rw [hTc] at hcell
        have HWAY := Lib.hid hway
        have B1 := Lib.hid W1.out.2.2.2.1
        clear hway hTc hcb hc hcl HTb
        go_wp2_with fail
        go_ret
        exact ⟨_, rfl, HWAY.out, B1.out⟩
      · have hne := HBT.out c.1 hcl hcb
        obtain ⟨t1, t2⟩ := toList_ne hne
        have I0 := Lib.hid (srchI_start S1.out hc)
        have HCB := Lib.hid hcb
        have HC := Lib.hid hc
        have HCL := Lib.hid hcl
        obtain ⟨Tc, hTc⟩ : ∃ S, T c.1 n = S := ⟨_, rfl⟩
        rw [hTc] at hcell t1 t2
        have HTC := Lib.hid hTc
        clear hcb hc hcl hne hTc hcelld
        go_wp2_with fail
        go_loopw [5, 6, 8] (fun v v' q wr => ∃ (i g d g' d' m : Nat) (L : List (Nat × Nat)), i ≤ n ∧ k < m ∧ q = .int .i64 i ∧ v = .slice (some ⟨g, 0, none⟩) m d ∧ v' = .slice (some ⟨g', 0, none⟩) m d' ∧ WSt w wr n L g d g' d' m ∧ SrchI n a b k i c L) (fun _ _ q _ => n - (intOf q).toNat)
        case atStart => exact ⟨0, _, _, _, _, _, L, by omega, hlt, rfl, rfl, rfl, W1.out, I0.out⟩
        case round =>
          clear I0 S1 W1 hcell t1 t2 HML HC
          obtain ⟨i, g2, d2, g3, d3, m2, L2, hi, hkm, rfl, rfl, rfl, hw2, hs2⟩ := hrel
          have hle2 := srch_len hs2.toSrch h2
          have hm2L := hw2.2.2.2.2
          have hm2 : m2 ≤ 256 := by omega
          have hcell := OwnSM.at hw2.1 k (by simp [qS]; omega)
          have hcelld := (OwnM.own hw2.2.1).at k (by simp [qD]; omega)
          rw [qS_get hs2.cur, HTC.out, Nat.zero_add] at hcell
          rw [qD_get hs2.cur, Nat.zero_add] at hcelld
          have ik : (k : Int) < (m2 : Int) := by omega
          have W2 := Lib.hid hw2
          have S2 := Lib.hid hs2
          have HM2 := Lib.hid hm2L
          clear hw2 hs2 hm2L
          by_cases hlt2 : i < n
          · have ii : (i : Int) < (Ta.size : Int) := by omega
            have ii' : i < Ta.size := by omega
            by_cases hcan : canB c.1 n i = true
            · have hst := fun w => l7Step_yes c.1 n i w h2 hlt2 hcan
              rw [HTC.out] at hst
              have hyl := flip_lt HCL.out hlt2
              have hmem := qS_mem S2.out.toSrch hyl
              have hadd := fun h => srchI_add S2.out hlt2 hcan h
              have hskip := fun h => srchI_skip S2.out (Or.inr h)
              generalize hy : c.1 ^^^ 2 ^ i = y at *
              clear hy
              obtain ⟨Ty, hTy⟩ : ∃ S, T y n = S := ⟨_, rfl⟩
              have HTY := Lib.hid hTy
              rw [hTy] at hst hmem
              have HST := Lib.hid hst
              have HMEM := Lib.hid hmem
              have HADD := Lib.hid hadd
              have HSKIP := Lib.hid hskip
              clear hst hmem hadd hskip hTy hcan
              have hqn : (qS n L2).length = m2 := by simp [qS]; exact HM2.out.symm
              have hhas := fun wr ha => l3Has_any g2 0 d2 (qS n L2) Ty wr (by omega) ha
              rw [hqn] at hhas
              clear hqn
              go_wp2_with fail
              refine (HST.out _).mono ?_
              rintro e w3 ⟨rfl, hq3⟩
              have W3 := Lib.hid (W2.out.qt hq3)
              have hcelld3 := (OwnM.own W3.out.2.1).at k (by simp [qD]; have := HM2.out; omega)
              rw [qD_get S2.out.cur, Nat.zero_add] at hcelld3
              clear hq3 hcell hcelld W2
              by_cases hnew : y ∈ L2.map (·.1)
              · rw [(hasS_iff _ _).2 (HMEM.out.2 hnew)] at hhas
                have HHAS := Lib.hid hhas
                have I2 := Lib.hid (HSKIP.out hnew)
                clear hhas hnew
                go_wp2_with fail
                refine (HHAS.out _ (OwnSM.at W3.out.1)).mono ?_
                rintro e w' ⟨rfl, rfl⟩
                go_wp2_with fail
                go_roundw
                case rel => exact ⟨i + 1, g2, d2, g3, d3, m2, L2, by omega, hkm, by go_num, rfl, rfl, W3.out, I2.out⟩
                case measure => simp [intOf]; omega
              · rw [show hasS (qS n L2) Ty = false from by cases h : hasS (qS n L2) Ty with | false => rfl | true => exact absurd (HMEM.out.1 ((hasS_iff _ _).1 h)) hnew] at hhas
                have HHAS := Lib.hid hhas
                have I2 := Lib.hid (HADD.out hnew)
                clear hhas hnew
                go_wp2_with fail
                refine (HHAS.out _ (OwnSM.at W3.out.1)).mono ?_
                rintro e w' ⟨rfl, rfl⟩
                have hs1 := W3.out.1
                have HS1 := Lib.hid hs1
                clear hs1
                go_wp2_with (first | (at_builtin; refine wpList_app1s rfl (.tmp 67) (.tmp 69) rfl _ rfl HS1.out rfl (by omega) ?_; intro g4 c4 w4 hown4 hg4 hat4; have hd4 : OwnM w4 w.heap.size g3 d3 m2 (qD L2) := OwnV.grown W3.out.2.1 hg4 (by have := W3.out.2.2.1; intro h; injection h; omega); have hb4 : Below w.heap.size w w4 := below_app W3.out.2.2.2.1 hg4 W3.out.1.le; have hne4 : g4 ≠ g3 := (by have := W3.out.2.1.lt; have := W3.out.2.2.1; rcases hat4 with h | h <;> omega); have hcelld4 := (OwnM.own hd4).at k (by simp [qD]; have := HM2.out; omega); rw [qD_get S2.out.cur, Nat.zero_add] at hcelld4; have O4 := Lib.hid hown4; have D4 := Lib.hid hd4; have B4 := Lib.hid hb4; have N4 := Lib.hid hne4; clear hown4 hg4 hat4 hd4 hb4 hne4) | (at_builtin; refine wpList_app1i rfl (.tmp 71) (.tmp 77) rfl _ rfl D4.out rfl (by omega) ?_; intro g5 c5 w5 hown5 hg5 hat5))
                have hs5 : OwnSM w5 w.heap.size g4 c4 (m2 + 1) (qS n L2 ++ [Ty]) := OwnV.grown O4.out hg5 (by have := N4.out; intro h; injection h; omega)
                have hb5 : Below w.heap.size w w5 := below_app B4.out hg5 D4.out.le
                have hne5 : g4 ≠ g5 := by have := O4.out.lt; have := N4.out; rcases hat5 with h | h <;> omega
                have hw5 : WSt w w5 n (L2 ++ [(y, c.2 + 1)]) g4 c4 g5 c5 (m2 + 1) := by
                  refine ⟨?_, ?_, hne5, hb5, by simp; exact HM2.out⟩
                  · rw [← qS_snoc, HTY.out]; exact hs5
                  · rw [← qD_snoc]; exact hown5
                have W5 := Lib.hid hw5
                clear hown5 hg5 hat5 hs5 hb5 hne5 hw5 O4 D4 B4 N4
                go_wp2
                go_roundw
                case rel => exact ⟨i + 1, g4, c4, g5, c5, m2 + 1, _, by omega, by omega, by go_num, rfl, rfl, W5.out, I2.out⟩
                case measure => simp [intOf]; omega
            · have hcan' : canB c.1 n i = false := by simpa using hcan
              have hst := fun w => l7Step_no c.1 n i w h2 hlt2 hcan'
              rw [HTC.out] at hst
              have HST := Lib.hid hst
              have I2 := Lib.hid (srchI_skip S2.out (Or.inl hcan'))
              clear hst hcan hcan'
              go_wp2_with fail
              refine (HST.out _).mono ?_
              rintro e w3 ⟨rfl, hq3⟩
              have W3 := Lib.hid (W2.out.qt hq3)
              clear hq3
              go_wp2_with fail
              go_roundw
              case rel => exact ⟨i + 1, g2, d2, g3, d3, m2, L2, by omega, hkm, by go_num, rfl, rfl, W3.out, I2.out⟩
              case measure => simp [intOf]; omega
          · obtain rfl : i = n := by omega
            have E2 := Lib.hid (srchI_end S2.out HCB.out)
            have ii : ¬ i < Ta.size := by omega
            go_wp2_with fail
            go_roundw
            case rel => exact ⟨k + 1, g2, d2, g3, d3, m2, L2, by omega, by go_num, rfl, rfl, W2.out, E2.out⟩
            case measure => simp [intOf]; omega
    · have hkL : k = L.length := by have := HML.out; have := S1.out.kle; omega
      have hway : IsWay n a b (-1) := srch_miss (by have := S1.out; rw [hkL] at this; exact this)
      have HWAY := Lib.hid hway
      have B1 := Lib.hid W1.out.2.2.2.1
      clear hkL hway
      go_wp2_with fail
      go_ret
      exact ⟨_, rfl, HWAY.out, B1.out⟩

end Go.Proofs.Ytkfgimhihknpoaa
