/-
  The law FnTrackWay. No condition.
-/
import Derived.Test.YtkfgimhihknpoaaTl9
import Derived.Test.YtkfgimhihknpoaaTl5
namespace Go.Proofs.Ytkfgimhihknpoaa
open Go.RowKit
set_option linter.unusedVariables false

theorem reach_turn {n k : Nat} (h8 : n ≤ 8) : ∀ {a b : Nat}, a < 2 ^ n → Reach n k a b → Reach n k (revT b n) (revT a n) := by
  induction k with
  | zero => intro a b ha h; cases h; rfl
  | succ k ih =>
    intro a b ha h
    obtain ⟨c, hc, hr⟩ := h
    exact reach_snoc (ih (par_step h8 ha hc).2 hr) (turn_step h8 ha hc)
theorem way_turn {n a b : Nat} {v : Int} (h8 : n ≤ 8) (ha : a < 2 ^ n) (hb : b < 2 ^ n) (h : IsWay n a b v) : IsWay n (revT b n) (revT a n) v := by
  have back : ∀ k, Reach n k (revT b n) (revT a n) → Reach n k a b := fun k hk => by
    have := reach_turn h8 (revT_lt b n) hk
    rw [rev_rev h8 ha, rev_rev h8 hb] at this
    exact this
  rcases h with ⟨k, hv, hk, hr, hm⟩ | ⟨hv, hn⟩
  · exact .inl ⟨k, hv, hk, reach_turn h8 ha hr, fun j hj => hm j (back j hj)⟩
  · exact .inr ⟨hv, fun k hk => hn k (back k hk)⟩
theorem way_zero {n a b : Nat} {v : Int} (h : IsWay n a b v) (h0 : 0 ≤ v) : v = 0 ↔ a = b := by
  rcases h with ⟨k, rfl, _, hr, hm⟩ | ⟨rfl, _⟩
  · constructor
    · intro hv
      obtain rfl : k = 0 := by omega
      exact hr
    · rintro rfl
      have := hm 0 rfl
      omega
  · omega
theorem way_next {n a b c : Nat} {v d : Int} (h : IsWay n a b v) (h0 : 0 ≤ v) (hs : StepT n a c) (hd : IsWay n c b d) (hd0 : 0 ≤ d) : v - 1 ≤ d := by
  rcases hd with ⟨k, rfl, _, hr, _⟩ | ⟨rfl, _⟩
  · rcases h with ⟨j, rfl, _, _, hm⟩ | ⟨rfl, hn⟩
    · have := hm (k + 1) ⟨c, hs, hr⟩
      omega
    · omega
  · omega
theorem way_less {n a b : Nat} {v : Int} (h : IsWay n a b v) (h0 : 0 ≤ v) (hne : a ≠ b) : ∃ i, i < n ∧ canB a n i = true ∧ IsWay n (a ^^^ 2 ^ i) b (v - 1) := by
  rcases h with ⟨k, rfl, hk, hr, hm⟩ | ⟨rfl, _⟩
  · cases k with
    | zero => exact absurd hr hne
    | succ k =>
      obtain ⟨c, ⟨i, hi, hc, rfl⟩, hr'⟩ := hr
      refine ⟨i, hi, hc, .inl ⟨k, by omega, by omega, hr', fun j hj => ?_⟩⟩
      have := hm (j + 1) ⟨_, ⟨i, hi, hc, rfl⟩, hj⟩
      omega
  · omega

def DrawS2 (w : World) (mx : Nat) (e : Ending) (w' : World) : Prop := ∃ s s' : Bs, e = .returned (.tuple #[.string s, .string s']) ∧ s.size ≤ mx ∧ s'.size ≤ mx ∧ Below w.heap.size w w'
set_option maxHeartbeats 1600000 in
theorem draw_way (A : Option Addr) (c m : Nat) (w : World) (hmc : m ≤ c) (hc : c ≤ 9223372036854775807) (hr : ByteRow w w.heap.size A m) :
    Calls Try.prog 23 #[.slice A m c] w (DrawS2 w 15) := by
  have HO := Lib.hid (open_any w.heap.size A m c w (Nat.le_refl _) hmc hc hr)
  clear hr
  go_enter Try.func23, Try.ntmps23
  go_wp2_with fail
  refine HO.out.mono ?_
  rintro e w1 ⟨rfl, hr1, hb1⟩
  have HR1 := Lib.hid hr1
  have HB1 := Lib.hid hb1
  clear hr1 hb1 HO
  go_wp2_with fail
  refine (pick_any w.heap.size w.heap.size 0 5 _ (by omega) (by omega) HR1.out).mono ?_
  rintro e w2 ⟨x, rfl, hx, hr2, hg2⟩
  have hx5 : x < 5 := by have := hx (by omega); omega
  have HR2 := Lib.hid hr2
  have HB2 := Lib.hid (below_app HB1.out hg2 (Nat.le_refl _))
  clear hr2 hg2 hx
  have htr := fun w' hr => track_any w.heap.size w.heap.size (0 + 1) (1 + x) w' (by omega) (by omega) hr
  rw [show ((1 + x : Nat) : Int) = 1 + (x : Int) by omega] at htr
  have HTR := Lib.hid htr
  clear htr
  go_wp2_with fail
  refine (HTR.out _ HR2.out).mono ?_
  rintro e w3 ⟨s, p', rfl, hs, hp', hr3, hg3⟩
  have HR3 := Lib.hid hr3
  have HB3 := Lib.hid (below_app HB2.out hg3 (Nat.le_refl _))
  clear hg3 hr3
  go_wp2_with fail
  refine (pick_any w.heap.size w.heap.size p' 16 _ (by omega) (by omega) HR3.out).mono ?_
  rintro e w4 ⟨y, rfl, _, hr4, hg4⟩
  have HR4 := Lib.hid hr4
  have HB4 := Lib.hid (below_app HB3.out hg4 (Nat.le_refl _))
  clear hg4 hr4
  by_cases hy : y = 0
  · subst hy
    have htr2 := fun w' hr => track_any w.heap.size w.heap.size (p' + 1) (1 + x + 1) w' (by omega) (by omega) hr
    rw [show ((1 + x + 1 : Nat) : Int) = 1 + (x : Int) + 1 by omega] at htr2
    have HTR2 := Lib.hid htr2
    clear htr2
    go_wp2_with fail
    refine (HTR2.out _ HR4.out).mono ?_
    rintro e w5 ⟨s', p5, rfl, hs', _, _, hg5⟩
    have HB5 := Lib.hid (below_app HB4.out hg5 (Nat.le_refl _))
    clear hg5
    go_wp2_with fail
    go_ret2
    exact ⟨s, s', rfl, by omega, by omega, HB5.out⟩
  · have t1 := beq_f (show (y : Int) ≠ 0 by omega)
    have t1' : (y == 0) = false := by simpa using hy
    have htr2 := fun w' hr => track_any w.heap.size w.heap.size (p' + 1) (1 + x) w' (by omega) (by omega) hr
    rw [show ((1 + x : Nat) : Int) = 1 + (x : Int) by omega] at htr2
    have HTR2 := Lib.hid htr2
    clear htr2
    go_wp2_with fail
    refine (HTR2.out _ HR4.out).mono ?_
    rintro e w5 ⟨s', p5, rfl, hs', _, _, hg5⟩
    have HB5 := Lib.hid (below_app HB4.out hg5 (Nat.le_refl _))
    clear hg5
    go_wp2_with fail
    go_ret2
    exact ⟨s, s', rfl, by omega, by omega, HB5.out⟩

/-- What the flag says behind i of the steps in L. -/
def LessI (n a b : Nat) (v : Int) (L : List Int) (i : Nat) (l : Bool) : Prop := l = true ↔ (a = b ∨ ∃ j : Nat, j < i ∧ ∃ x : Nat, L.getD j 0 = (x : Int) ∧ IsWay n (a ^^^ 2 ^ x) b (v - 1))
set_option maxHeartbeats 6400000 in
theorem law_TrackWay (A : Option Addr) (c : Nat) (ys : List Int) (w : World) (hq : ArgBytes w A c ys) :
    Calls Try.prog 6 #[.slice A ys.length c] w fun e w' => e = .returned (.bool true) ∧ Below w.heap.size w w' := by
  obtain ⟨hr, hlc, hc⟩ := hq
  by_cases hbig : 1048576 < ys.length
  · have t0 := dec_t (show (1048576 : Int) < (ys.length : Int) by omega)
    go_enter Try.func6, Try.ntmps6
    go_wp2_with fail
    go_ret
    exact ⟨rfl, Below.refl _ _⟩
  have t0 := dec_f (show ¬ (1048576 : Int) < (ys.length : Int) by omega)
  have HD := Lib.hid (draw_way A c ys.length w hlc hc hr)
  clear hr
  go_enter Try.func6, Try.ntmps6
  go_wp2_with fail
  refine HD.out.mono ?_
  rintro e w1 ⟨S, S', rfl, hS, hS', hb1⟩
  have B1 := Lib.hid hb1
  clear hb1 HD
  go_wp2_with fail
  refine (impl_way S S' _ (by omega) (by omega)).mono ?_
  rintro e w2 ⟨v, rfl, hv2, hb2⟩
  have V2 := Lib.hid hv2
  have B2 := Lib.hid (below_to B1.out hb2 B1.out.size)
  have hvb := hv2.bd
  clear hb2 hv2 B1
  go_wp2_with fail
  refine (spec_way S S' _ (by omega) (by omega)).mono ?_
  rintro e w3 ⟨v', rfl, hv3, hb3⟩
  obtain rfl := V2.out.uniq hv3
  have B3 := Lib.hid (below_to B2.out hb3 B2.out.size)
  clear hb3 hv3 B2
  by_cases hv0 : v < 0
  · have t1 := dec_t hv0
    go_wp2_with fail
    go_ret
    exact ⟨rfl, B3.out⟩
  have t1 := dec_f hv0
  have hcond : trB S = true ∧ trB S' = true ∧ S.size = S'.size := by
    by_cases h : trB S = true ∧ trB S' = true ∧ S.size = S'.size
    · exact h
    · have := V2.out
      unfold WayV at this
      rw [if_neg h] at this
      omega
  obtain ⟨a, n, h1, h2, ha, rfl⟩ := trB_T hcond.1
  obtain ⟨b, m, h1', h2', hb, rfl⟩ := trB_T hcond.2.1
  obtain rfl : n = m := by have := hcond.2.2; rw [T_size, T_size] at this; exact this
  have hway : IsWay n a b v := by
    have := V2.out
    unfold WayV at this
    rw [if_pos hcond, T_size, tset_T a n h1 h2 ha, tset_T b n h1 h2 hb] at this
    exact this
  have hta := fun w => impl_turn a n w h1 h2 ha
  have htb := fun w => impl_turn b n w h1 h2 hb
  have hnx := fun w => impl_next (T a n) w (by rw [T_size]; omega)
  have hback := fun w => impl_way_yes (revT b n) (revT a n) n w h1 h2 (revT_lt _ _) (revT_lt _ _)
  have hbw := way_turn h2 ha hb hway
  have hz := way_zero hway (by omega)
  have hmem := fun i => mem_nx (T a n) i (T a n).size
  have hnl := nx_length (T a n) (T a n).size
  rw [T_size] at hnl hmem
  have hcan : ∀ i, i < n → stepOk (T a n) (i : Int) = canB a n i := fun i hi => stepOk_T a n i h1 h2 ha hi
  have hstp := fun (x : Nat) (hx : x < n) (hcx : canB a n x = true) w => impl_step (T a n) (x : Int) w (by rw [T_size]; omega)
  have hsv : ∀ x : Nat, x < n → canB a n x = true → stepV (T a n) (x : Int) = T (a ^^^ 2 ^ x) n := fun x hx hcx => stepV_T a n x h1 h2 ha hx hcx
  have hwy := fun (x : Nat) (hx : x < n) w => impl_way_yes (a ^^^ 2 ^ x) b n w h1 h2 (flip_lt ha hx) hb
  have hnat : ∀ z ∈ nx (T a n) n, ∃ i : Nat, z = i := by
    have h0 : ∀ k, ∀ z ∈ nx (T a n) k, ∃ i : Nat, z = i := by
      intro k
      induction k with
      | zero => intro z hz; simp [nx] at hz
      | succ k ih =>
        intro z hz
        simp only [nx] at hz
        split at hz
        · rcases List.mem_append.1 hz with h | h
          · exact ih z h
          · simp at h; exact ⟨k, h⟩
        · exact ih z hz
    exact h0 n
  rw [T_size] at hnx
  have hTab : T a n = T b n ↔ a = b := ⟨fun h => (T_inj ha hb h).1, fun h => by rw [h]⟩
  generalize nx (T a n) n = L at *
  generalize T (revT a n) n = Xa at *
  generalize T (revT b n) n = Xb at *
  have HWAY := Lib.hid hway
  have HTA := Lib.hid hta
  have HTB := Lib.hid htb
  have HNX := Lib.hid hnx
  have HBK := Lib.hid hback
  have HBW := Lib.hid hbw
  have HZ := Lib.hid hz
  have HMEM := Lib.hid hmem
  have HCAN := Lib.hid hcan
  have HSTP := Lib.hid hstp
  have HSV := Lib.hid hsv
  have HWY := Lib.hid hwy
  have HNAT := Lib.hid hnat
  have HTAB := Lib.hid hTab
  clear V2 hway hta htb hnx hback hbw hz hmem hcan hstp hsv hwy hnat hTab hcond ha hb hS hS'
  -- the first flag
  have flag : ∃ l0 : Bool, (l0 = true ↔ a = b) ∧ (l0 = true → T a n = T b n) ∧ (l0 = false → (T a n).toList ≠ (T b n).toList) := by
    by_cases h : a = b
    · exact ⟨true, by simp [h], fun _ => HTAB.out.2 h, by simp⟩
    · refine ⟨false, by simp [h], by simp, fun _ e => h (HTAB.out.1 ?_)⟩
      exact byteArray_ext (by rw [ByteArray.toList_eq, ByteArray.toList_eq] at e; exact e)
  obtain ⟨l0, hl0, hl1, hl2⟩ := flag
  have HL0 := Lib.hid hl0
  have hteq : ((T a n).toList == (T b n).toList) = l0 := by
    cases l0 with
    | true => rw [hl1 rfl]; simp
    | false => simpa using hl2 rfl
  have hvz : (v == 0) = l0 := by
    rw [Bool.eq_iff_iff, beq_iff_eq, HZ.out, HL0.out]
  have HVZ := Lib.hid hvz
  clear hl0 hl1 hl2 HTAB hvz
  generalize T a n = Sa at *
  generalize T b n = Sb at *
  go_wp2_with fail
  refine (HTA.out _).mono ?_
  rintro e w4 ⟨rfl, hb4⟩
  have B4 := Lib.hid (below_to B3.out hb4 B3.out.size)
  clear hb4 B3
  go_wp2_with fail
  refine (HTB.out _).mono ?_
  rintro e w5 ⟨rfl, hb5⟩
  have B5 := Lib.hid (below_to B4.out hb5 B4.out.size)
  clear hb5 B4
  go_wp2_with fail
  refine (HNX.out _).mono ?_
  rintro e w6 ⟨g, d, rfl, ho6, hb6⟩
  have A6 := Lib.hid ho6.at
  have G6 := Lib.hid ho6.lt
  have B6 := Lib.hid (below_to B5.out hb6 B5.out.size)
  clear hb6 ho6 B5
  have LS0 : Hid (LessI n a b v L 0 l0) := Lib.hid (by
    unfold LessI
    rw [HL0.out]
    constructor
    · intro h; exact .inl h
    · rintro (h | ⟨j, hj, _⟩)
      · exact h
      · omega)
  go_wp2_with fail
  go_loopw [11, 13] (fun lv q wr => ∃ (i : Nat) (l : Bool), i ≤ L.length ∧ q = .int .i64 i ∧ lv = .bool l ∧ LessI n a b v L i l ∧ AtInts wr g 0 L ∧ g < wr.heap.size ∧ Below w.heap.size w wr) (fun _ q _ => L.length - (intOf q).toNat)
  case atStart => exact ⟨0, l0, by omega, rfl, rfl, LS0.out, A6.out, G6.out, B6.out⟩
  case round =>
    clear LS0 A6 G6 B6
    obtain ⟨i, l, hi, rfl, rfl, hls, hat, hgl, hbel⟩ := hrel
    have LS := Lib.hid hls
    have A7 := Lib.hid hat
    have G7 := Lib.hid hgl
    have B7 := Lib.hid hbel
    clear hls hat hgl hbel
    by_cases hlt : i < L.length
    · have hci := A7.out i hlt
      rw [Nat.zero_add] at hci
      have hLm : L.getD i 0 ∈ L := by simp [List.getD, hlt]
      obtain ⟨x, hx⟩ := HNAT.out _ hLm
      rw [hx] at hci hLm
      obtain ⟨hxn, hxo⟩ := (HMEM.out x).1 hLm
      have hxc : canB a n x = true := by rw [← HCAN.out x hxn]; exact hxo
      have hst := HSTP.out x hxn hxc
      rw [hxo, HSV.out x hxn hxc] at hst
      have hwx := HWY.out x hxn
      have hstep : StepT n a (a ^^^ 2 ^ x) := ⟨x, hxn, hxc, rfl⟩
      have hnext := fun d hd hd0 => way_next HWAY.out (by omega) hstep (d := d) hd hd0
      have hLS : ∀ d, IsWay n (a ^^^ 2 ^ x) b d → LessI n a b v L (i + 1) (l || (d == v - 1)) := by
        intro d hd
        have hls0 := LS.out
        unfold LessI at hls0 ⊢
        rw [Bool.or_eq_true, hls0, beq_iff_eq]
        constructor
        · rintro ((h | ⟨j, hj, h⟩) | h)
          · exact .inl h
          · exact .inr ⟨j, by omega, h⟩
          · exact .inr ⟨i, by omega, x, hx, by rw [← h]; exact hd⟩
        · rintro (h | ⟨j, hj, x', hx', hw'⟩)
          · exact .inl (.inl h)
          · by_cases hji : j < i
            · exact .inl (.inr ⟨j, hji, x', hx', hw'⟩)
            · obtain rfl : j = i := by omega
              rw [hx] at hx'
              obtain rfl : x = x' := by omega
              exact .inr (hd.uniq hw')
      generalize T (a ^^^ 2 ^ x) n = Sc at *
      have HST := Lib.hid hst
      have HWX := Lib.hid hwx
      have HNE := Lib.hid hnext
      have HLS := Lib.hid hLS
      have i1 : (i : Int) < (L.length : Int) := by omega
      clear hx hLm hxo hxc hst hwx hstep hnext hLS
      go_wp2_with fail
      refine (HST.out _).mono ?_
      rintro e w8 ⟨rfl, hb8⟩
      have A8 := Lib.hid (A7.out.below hb8 G7.out)
      have G8 := Lib.hid (Nat.lt_of_lt_of_le G7.out hb8.size)
      have B8 := Lib.hid (below_to B7.out hb8 B7.out.size)
      clear hb8
      go_wp2_with fail
      refine (HWX.out _).mono ?_
      rintro e w9 ⟨dd, rfl, hd9, hb9⟩
      have A9 := Lib.hid (A8.out.below hb9 G8.out)
      have G9 := Lib.hid (Nat.lt_of_lt_of_le G8.out hb9.size)
      have B9 := Lib.hid (below_to B8.out hb9 B8.out.size)
      have hdb := hd9.bd
      have L9 := Lib.hid (HLS.out dd hd9)
      have N9 := Lib.hid (HNE.out dd hd9)
      clear hb9 hd9 A8 G8 B8 A7 G7 B7
      have t4 : (dd == v - 1) = decide (dd = v - 1) := by rw [Bool.eq_iff_iff]; simp
      cases hl : l with
      | true =>
        subst hl
        by_cases hd0 : 0 ≤ dd
        · have h5 := N9.out hd0
          have t5 := dec_t hd0
          have t6 := dec_f (show ¬ dd < v - 1 by omega)
          clear t4
          go_wp2_with fail
          go_roundw
          case rel => exact ⟨i + 1, true, by omega, by go_num, rfl, by have := L9.out; simpa using this, A9.out, G9.out, B9.out⟩
          case measure => simp [intOf]; omega
        · have t5 := dec_f hd0
          clear t4
          go_wp2_with fail
          go_roundw
          case rel => exact ⟨i + 1, true, by omega, by go_num, rfl, by have := L9.out; simpa using this, A9.out, G9.out, B9.out⟩
          case measure => simp [intOf]; omega
      | false =>
        subst hl
        have L10 : Hid (LessI n a b v L (i + 1) (dd == v - 1)) := Lib.hid (by have := L9.out; rw [Bool.false_or] at this; exact this)
        by_cases hd0 : 0 ≤ dd
        · have h5 := N9.out hd0
          have t5 := dec_t hd0
          have t6 := dec_f (show ¬ dd < v - 1 by omega)
          by_cases he : dd = v - 1
          · have t7 := beq_t he
            have hL10 := L10.out
            rw [t7] at hL10
            have L11 := Lib.hid hL10
            clear t4 hL10 he
            go_wp2_with fail
            go_roundw
            case rel => exact ⟨i + 1, true, by omega, by go_num, rfl, L11.out, A9.out, G9.out, B9.out⟩
            case measure => simp [intOf]; omega
          · have t7 := beq_f he
            have hL10 := L10.out
            rw [t7] at hL10
            have L11 := Lib.hid hL10
            clear t4 hL10 he
            go_wp2_with fail
            go_roundw
            case rel => exact ⟨i + 1, false, by omega, by go_num, rfl, L11.out, A9.out, G9.out, B9.out⟩
            case measure => simp [intOf]; omega
        · have t5 := dec_f hd0
          by_cases he : dd = v - 1
          · have t7 := beq_t he
            have hL10 := L10.out
            rw [t7] at hL10
            have L11 := Lib.hid hL10
            clear t4 hL10 he
            go_wp2_with fail
            go_roundw
            case rel => exact ⟨i + 1, true, by omega, by go_num, rfl, L11.out, A9.out, G9.out, B9.out⟩
            case measure => simp [intOf]; omega
          · have t7 := beq_f he
            have hL10 := L10.out
            rw [t7] at hL10
            have L11 := Lib.hid hL10
            clear t4 hL10 he
            go_wp2_with fail
            go_roundw
            case rel => exact ⟨i + 1, false, by omega, by go_num, rfl, L11.out, A9.out, G9.out, B9.out⟩
            case measure => simp [intOf]; omega
    · have hlt' : l = true := by
        have h := LS.out
        unfold LessI at h
        rw [h]
        by_cases hab : a = b
        · exact .inl hab
        · obtain ⟨x, hxn, hxc, hw⟩ := way_less HWAY.out (by omega) hab
          have hxm := (HMEM.out x).2 ⟨hxn, by rw [HCAN.out x hxn]; exact hxc⟩
          obtain ⟨j, hj⟩ := List.getElem?_of_mem hxm
          have hjl := (List.getElem?_eq_some_iff.1 hj).1
          exact .inr ⟨j, by omega, x, by simp [List.getD, hj], hw⟩
      subst hlt'
      have tvz := HVZ.out
      go_wp2_with fail
      refine (HBK.out _).mono ?_
      rintro e w8 ⟨d8, rfl, hd8, hb8⟩
      obtain rfl := HBW.out.uniq hd8
      have B8 := Lib.hid (below_to B7.out hb8 B7.out.size)
      clear hb8 hd8
      go_wp2_with fail
      go_ret
      exact ⟨rfl, B8.out⟩

end Go.Proofs.Ytkfgimhihknpoaa
