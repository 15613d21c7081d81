/-
  TrackWay of both for all texts; the law FnExactTrackWay. No condition but strings that have a length.
-/
import Derived.Test.YtkfgimhihknpoaaWay3
namespace Go.Proofs.Ytkfgimhihknpoaa
open Go.RowKit
set_option linter.unusedVariables false

theorem wayV_no {S S' : ByteArray} (h : ¬ (trB S = true ∧ trB S' = true ∧ S.size = S'.size)) : WayV S S' (-1) := by unfold WayV; rw [if_neg h]
theorem wayV_yes {a b n : Nat} {v : Int} (h1 : 1 ≤ n) (h2 : n ≤ 8) (ha : a < 2 ^ n) (hb : b < 2 ^ n) (h : IsWay n a b v) : WayV (T a n) (T b n) v := by
  unfold WayV
  rw [if_pos ⟨trB_of a n h1 h2, trB_of b n h1 h2, by rw [T_size, T_size]⟩, T_size, tset_T a n h1 h2 ha, tset_T b n h1 h2 hb]
  exact h
set_option maxHeartbeats 800000 in
theorem spec_way (S S' : ByteArray) (w : World) (hS : S.size ≤ 9223372036854775807) (hS' : S'.size ≤ 9223372036854775807) :
    Calls Try.prog 11 #[.string S, .string S'] w (RetWay S S' w) := by
  by_cases hv : trB S = true
  · by_cases hv' : trB S' = true
    · obtain ⟨a, n, h1, h2, ha, rfl⟩ := trB_T hv
      obtain ⟨b, m, h1', h2', hb, rfl⟩ := trB_T hv'
      by_cases hnm : n = m
      · subst hnm
        refine (spec_way_yes a b n w h1 h2 ha hb).mono ?_
        rintro e w' ⟨v, rfl, hw, hbel⟩
        exact ⟨v, rfl, wayV_yes h1 h2 ha hb hw, hbel⟩
      · have hno := wayV_no (S := T a n) (S' := T b m) (fun h => hnm (by have := h.2.2; rw [T_size, T_size] at this; exact this))
        have hta := spec_tv (T a n) w (by rw [T_size]; omega)
        have htb := spec_tv (T b m) w (by rw [T_size]; omega)
        rw [hv] at hta
        rw [hv'] at htb
        have z1 := T_size a n
        have z2 := T_size b m
        have tz := bne_t (show ((T a n).size : Int) ≠ ((T b m).size : Int) by omega)
        generalize T a n = Ta at *
        generalize T b m = Tb at *
        have HNO := Lib.hid hno
        have HTA := Lib.hid hta
        have HTB := Lib.hid htb
        clear hno hta htb z1 z2 hv hv' hnm
        go_enter Try.func11, Try.ntmps11
        go_wp2_with fail
        refine HTA.out.mono ?_
        rintro e w' ⟨rfl, rfl⟩
        go_wp2_with fail
        refine HTB.out.mono ?_
        rintro e w' ⟨rfl, rfl⟩
        go_wp2_with fail
        go_ret
        exact ⟨-1, rfl, HNO.out, Below.refl _ _⟩
    · have hno := wayV_no (S := S) (S' := S') (fun h => hv' h.2.1)
      have hta := spec_tv S w hS
      have htb := spec_tv S' w hS'
      rw [hv] at hta
      rw [show trB S' = false by simpa using hv'] at htb
      have HNO := Lib.hid hno
      have HTA := Lib.hid hta
      have HTB := Lib.hid htb
      clear hno hta htb hv hv'
      go_enter Try.func11, Try.ntmps11
      go_wp2_with fail
      refine HTA.out.mono ?_
      rintro e w' ⟨rfl, rfl⟩
      go_wp2_with fail
      refine HTB.out.mono ?_
      rintro e w' ⟨rfl, rfl⟩
      go_wp2_with fail
      go_ret
      exact ⟨-1, rfl, HNO.out, Below.refl _ _⟩
  · have hno := wayV_no (S := S) (S' := S') (fun h => hv h.1)
    have hta := spec_tv S w hS
    rw [show trB S = false by simpa using hv] at hta
    have HNO := Lib.hid hno
    have HTA := Lib.hid hta
    clear hno hta hv
    go_enter Try.func11, Try.ntmps11
    go_wp2_with fail
    refine HTA.out.mono ?_
    rintro e w' ⟨rfl, rfl⟩
    go_wp2_with fail
    go_ret
    exact ⟨-1, rfl, HNO.out, Below.refl _ _⟩
set_option maxHeartbeats 800000 in
theorem impl_way (S S' : ByteArray) (w : World) (hS : S.size ≤ 9223372036854775807) (hS' : S'.size ≤ 9223372036854775807) :
    Calls Try.prog 12 #[.string S, .string S'] w (RetWay S S' w) := by
  by_cases hv : trB S = true
  · obtain ⟨a, n, h1, h2, ha, rfl⟩ := trB_T hv
    have hta := fun w => trackOf_yes a n w h1 h2 ha
    by_cases hv' : trB S' = true
    · obtain ⟨b, m, h1', h2', hb, rfl⟩ := trB_T hv'
      have htb := fun w => trackOf_yes b m w h1' h2' hb
      by_cases hnm : n = m
      · subst hnm
        refine (impl_way_yes a b n w h1 h2 ha hb).mono ?_
        rintro e w' ⟨v, rfl, hw, hbel⟩
        exact ⟨v, rfl, wayV_yes h1 h2 ha hb hw, hbel⟩
      · have hno := wayV_no (S := T a n) (S' := T b m) (fun h => hnm (by have := h.2.2; rw [T_size, T_size] at this; exact this))
        have tz := bne_t (show (n : Int) ≠ (m : Int) by omega)
        have tz' : (n != m) = true := by simpa using hnm
        generalize T a n = Ta at *
        generalize T b m = Tb at *
        have HNO := Lib.hid hno
        have HTA := Lib.hid hta
        have HTB := Lib.hid htb
        clear hno hta htb hv hv' hnm
        go_enter Try.func12, Try.ntmps12
        go_wp2_with fail
        refine (HTA.out _).mono ?_
        rintro e w1 ⟨rfl, hb1⟩
        have K1 := Lib.hid (Blk.new w1 54 #[.int .u16 (a : Int), .int .i64 (n : Int)])
        have B1 := Lib.hid (below_new' hb1 (.cells #[.int .u16 (a : Int), .int .i64 (n : Int)] 54))
        clear hb1
        go_wp2_with fail
        refine (HTB.out _).mono ?_
        rintro e w2 ⟨rfl, hb2⟩
        have c1 := (K1.out.below hb2 K1.out.lt).cell 1
        have hl12 : w1.heap.size < w2.heap.size := by have := hb2.size; simp at this; omega
        have B2 := Lib.hid (below_new' (below_to B1.out hb2 B1.out.size) (.cells #[.int .u16 (b : Int), .int .i64 (m : Int)] 54))
        clear hb2
        go_wp2_with fail
        go_ret
        exact ⟨-1, rfl, HNO.out, B2.out⟩
    · have hno := wayV_no (S := T a n) (S' := S') (fun h => hv' h.2.1)
      have htb := fun w => trackOf_no S' w hS' (by simpa using hv')
      generalize T a n = Ta at *
      have HNO := Lib.hid hno
      have HTA := Lib.hid hta
      have HTB := Lib.hid htb
      clear hno hta htb hv hv'
      go_enter Try.func12, Try.ntmps12
      go_wp2_with fail
      refine (HTA.out _).mono ?_
      rintro e w1 ⟨rfl, hb1⟩
      have B1 := Lib.hid (below_new' hb1 (.cells #[.int .u16 (a : Int), .int .i64 (n : Int)] 54))
      clear hb1
      go_wp2_with fail
      refine (HTB.out _).mono ?_
      rintro e w2 ⟨rfl, hb2⟩
      have B2 := Lib.hid (below_to B1.out hb2 B1.out.size)
      clear hb2
      go_wp2_with fail
      go_ret
      exact ⟨-1, rfl, HNO.out, below_new' B2.out _⟩
  · have hno := wayV_no (S := S) (S' := S') (fun h => hv h.1)
    have hta := fun w => trackOf_no S w hS (by simpa using hv)
    have HNO := Lib.hid hno
    have HTA := Lib.hid hta
    clear hno hta
    by_cases hv' : trB S' = true
    · obtain ⟨b, m, h1', h2', hb, rfl⟩ := trB_T hv'
      have htb := fun w => trackOf_yes b m w h1' h2' hb
      generalize T b m = Tb at *
      have HTB := Lib.hid htb
      clear htb hv hv'
      go_enter Try.func12, Try.ntmps12
      go_wp2_with fail
      refine (HTA.out _).mono ?_
      rintro e w1 ⟨rfl, hb1⟩
      have B1 := Lib.hid hb1
      clear hb1
      go_wp2_with fail
      refine (HTB.out _).mono ?_
      rintro e w2 ⟨rfl, hb2⟩
      have B2 := Lib.hid (below_to (below_new' B1.out _) hb2 (below_new' B1.out _).size)
      clear hb2
      go_wp2_with fail
      go_ret
      exact ⟨-1, rfl, HNO.out, below_new' B2.out _⟩
    · have htb := fun w => trackOf_no S' w hS' (by simpa using hv')
      have HTB := Lib.hid htb
      clear htb hv hv'
      go_enter Try.func12, Try.ntmps12
      go_wp2_with fail
      refine (HTA.out _).mono ?_
      rintro e w1 ⟨rfl, hb1⟩
      have B1 := Lib.hid hb1
      clear hb1
      go_wp2_with fail
      refine (HTB.out _).mono ?_
      rintro e w2 ⟨rfl, hb2⟩
      have B2 := Lib.hid (below_to (below_new' B1.out _) hb2 (below_new' B1.out _).size)
      clear hb2
      go_wp2_with fail
      go_ret
      exact ⟨-1, rfl, HNO.out, below_new' B2.out _⟩
set_option maxHeartbeats 800000 in
theorem law_ExactTrackWay (S S' : ByteArray) (w : World) (hs : S.size ≤ maxLen) (hs' : S'.size ≤ maxLen) :
    Calls Try.prog 3 #[.string S, .string S'] w fun e w' => e = .returned (.bool true) ∧ Below w.heap.size w w' := by
  have hm : maxLen = 9223372036854775807 := rfl
  rw [hm] at hs hs'
  clear hm
  by_cases hbig : 1048576 < S.size
  · have t0 := dec_t (show (1048576 : Int) < (S.size : Int) by omega)
    go_enter Try.func3, Try.ntmps3
    go_wp2_with fail
    go_ret
    exact ⟨rfl, Below.refl _ _⟩
  have t0 := dec_f (show ¬ (1048576 : Int) < (S.size : Int) by omega)
  by_cases hbig' : 1048576 < S'.size
  · have t1 := dec_t (show (1048576 : Int) < (S'.size : Int) by omega)
    go_enter Try.func3, Try.ntmps3
    go_wp2_with fail
    go_ret
    exact ⟨rfl, Below.refl _ _⟩
  have t1 := dec_f (show ¬ (1048576 : Int) < (S'.size : Int) by omega)
  go_enter Try.func3, Try.ntmps3
  go_wp2_with fail
  refine (spec_way S S' _ hs hs').mono ?_
  rintro e w1 ⟨v, rfl, hv, hb1⟩
  have V1 := Lib.hid hv
  have B1 := Lib.hid hb1
  clear hv hb1
  go_wp2_with fail
  refine (impl_way S S' _ hs hs').mono ?_
  rintro e w2 ⟨v', rfl, hv', hb2⟩
  obtain rfl := V1.out.uniq hv'
  have B2 := Lib.hid (below_to B1.out hb2 B1.out.size)
  clear hv' hb2
  go_wp2_with fail
  go_ret
  exact ⟨rfl, B2.out⟩

end Go.Proofs.Ytkfgimhihknpoaa
