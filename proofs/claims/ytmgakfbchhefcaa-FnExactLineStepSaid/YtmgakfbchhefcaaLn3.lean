/-
  Lines: the laws' helpers on lines, copies. No condition.
-/
import Derived.Test.YtmgakfbchhefcaaLn2
namespace Go.Proofs.Ytmgakfbchhefcaa
open Go.RowKit
set_option linter.unusedVariables false
set_option linter.unusedSimpArgs false

set_option maxHeartbeats 400000 in
theorem szBlockS_any (A : Option Addr) (c n left : Nat) (w : World) (hn : n ≤ 9223372036854775807) (hl : left ≤ 1099511627776) :
    Calls Try.prog 46 #[.slice A n c, .int .i64 left] w fun e w' => e = .returned (.int .i64 (if n ≤ left then (left : Int) - n else -1)) ∧ w = w' := by
  by_cases h : n ≤ left
  · rw [if_pos h]
    have u : IntKind.i64.wrap ((left : Int) - (n : Int)) = (left : Int) - n := IntWalk.i64_in _ (by omega)
    have t := dec_f (show ¬ (left : Int) - (n : Int) < 0 by omega)
    go_enter Try.func46, Try.ntmps46
    go_wp2
    go_ret
    exact ⟨rfl, rfl⟩
  · rw [if_neg h]
    have u : IntKind.i64.wrap ((left : Int) - (n : Int)) = (left : Int) - n := IntWalk.i64_in _ (by omega)
    have t := dec_t (show (left : Int) - (n : Int) < 0 by omega)
    go_enter Try.func46, Try.ntmps46
    go_wp2
    go_ret
    exact ⟨rfl, rfl⟩
theorem szIntS_l (A : Option Addr) (c n left : Nat) (w : World) (hn : n ≤ 9223372036854775807) (hl : left ≤ 1099511627776) :
    Calls Try.prog 47 #[.slice A n c, .int .i64 left] w fun e w' => e = .returned (.int .i64 (if n ≤ left then (left : Int) - n else -1)) ∧ w = w' := by
  by_cases h : n ≤ left
  · rw [if_pos h]
    have u : IntKind.i64.wrap ((left : Int) - (n : Int)) = (left : Int) - n := IntWalk.i64_in _ (by omega)
    have t := dec_f (show ¬ (left : Int) - (n : Int) < 0 by omega)
    go_enter Try.func47, Try.ntmps47
    go_wp2
    go_ret
    exact ⟨rfl, rfl⟩
  · rw [if_neg h]
    have u : IntKind.i64.wrap ((left : Int) - (n : Int)) = (left : Int) - n := IntWalk.i64_in _ (by omega)
    have t := dec_t (show (left : Int) - (n : Int) < 0 by omega)
    go_enter Try.func47, Try.ntmps47
    go_wp2
    go_ret
    exact ⟨rfl, rfl⟩
/-- What szLine leaves of 2^20. -/
def szL (n m : Nat) : Int := if n + m ≤ 1048576 then (1048576 : Int) - n - m else -1
set_option maxHeartbeats 800000 in
theorem szLine_any (A A' : Option Addr) (c c' n m : Nat) (w : World) (hn : n ≤ 9223372036854775807) (hm : m ≤ 9223372036854775807) :
    Calls Try.prog 14 #[.agg #[.slice A n c, .slice A' m c'], .int .i64 1048576] w fun e w' => e = .returned (.int .i64 (szL n m)) ∧ Below w.heap.size w w' := by
  have h1 := fun w => szBlockS_any A c n 1048576 w hn (by omega)
  by_cases hA : n ≤ 1048576
  · rw [if_pos hA] at h1
    have h2 := fun w => szIntS_l A' c' m (1048576 - n) w hm (by omega)
    rw [show ((1048576 - n : Nat) : Int) = 1048576 - (n : Int) by omega] at h2 
    have H1 := Lib.hid h1
    have t1 := dec_f (show ¬ ((1048576 : Nat) : Int) - (n : Int) < 0 by omega)
    have t1' := dec_f (show ¬ (1048576 : Int) - (n : Int) < 0 by omega)
    by_cases hB : m ≤ 1048576 - n
    · rw [if_pos hB] at h2
      have H2 := Lib.hid h2
      have t2 := dec_f (show ¬ (1048576 : Int) - (n : Int) - (m : Int) < 0 by omega)
      have e : szL n m = (1048576 : Int) - n - m := by unfold szL; rw [if_pos (by omega)]
      rw [e]
      clear h1 h2 e
      go_enter Try.func14, Try.ntmps14
      go_wp2_with (first | (go_at_call 46; go_must (go_fit (H1.out _); rintro e w1 ⟨rfl, rfl⟩)) | (go_at_call 47; go_must (go_fit (H2.out _); rintro e w1 ⟨rfl, rfl⟩)))
      go_ret
      exact ⟨rfl, below_new w _⟩
    · rw [if_neg hB] at h2
      have H2 := Lib.hid h2
      have e : szL n m = -1 := by unfold szL; rw [if_neg (by omega)]
      rw [e]
      clear h1 h2 e
      go_enter Try.func14, Try.ntmps14
      go_wp2_with (first | (go_at_call 46; go_must (go_fit (H1.out _); rintro e w1 ⟨rfl, rfl⟩)) | (go_at_call 47; go_must (go_fit (H2.out _); rintro e w1 ⟨rfl, rfl⟩)))
      go_ret
      exact ⟨rfl, below_new w _⟩
  · rw [if_neg hA] at h1
    have H1 := Lib.hid h1
    have e : szL n m = -1 := by unfold szL; rw [if_neg (by omega)]
    rw [e]
    clear h1 e
    go_enter Try.func14, Try.ntmps14
    go_wp2_with (first | (go_at_call 46; go_must (go_fit (H1.out _); rintro e w1 ⟨rfl, rfl⟩)))
    go_ret
    exact ⟨rfl, below_new w _⟩

def NewLine (w : World) (bs : List BV) (ts : List Int) (e : Ending) (w' : World) : Prop :=
  ∃ g d g' d', e = .returned (.agg #[.slice (some ⟨g, 0, none⟩) bs.length d, .slice (some ⟨g', 0, none⟩) ts.length d']) ∧ OwnB w' w.heap.size g d bs ∧ Own w' w.heap.size g' d' ts ∧ g ≠ g' ∧ Below w.heap.size w w'
set_option maxHeartbeats 800000 in
theorem toLine_any (A A' : Option Addr) (c c' : Nat) (bs : List BV) (ts : List Int) (w : World) (hn : bs.length ≤ 1048576) (hm : ts.length ≤ 1048576) (hr : RdBl w A bs) (hr' : RdInts w A' ts) :
    Calls Try.prog 17 #[.agg #[.slice A bs.length c, .slice A' ts.length c']] w (NewLine w bs ts) := by
  let W3 := ((w.alloc (.cells #[.slice A bs.length c, .slice A' ts.length c'] 25)).alloc (.cells #[.slice none 0 0, .slice none 0 0] 32)).alloc (.cells #[.slice none 0 0, .slice none 0 0] 32)
  have hb3 : Below w.heap.size w W3 := below_new' (below_new' (below_new w _) _) _
  have k0 : Blk W3 w.heap.size 25 #[.slice A bs.length c, .slice A' ts.length c'] := ((Blk.new w _ _).alloc _).alloc _
  have k1 : Blk W3 (w.heap.size + 1) 32 #[.slice none 0 0, .slice none 0 0] := by simpa using (Blk.new (w.alloc _) _ _).alloc _
  have k2 : Blk W3 (w.heap.size + 2) 32 #[.slice none 0 0, .slice none 0 0] := by simpa using Blk.new ((w.alloc _).alloc _) _ _
  have HC1 := Lib.hid (toBlockS_any A c bs W3 hn (hr.below hb3))
  have HB3 := Lib.hid hb3
  have K0 := Lib.hid k0
  have K1 := Lib.hid k1
  have K2 := Lib.hid k2
  have HR' := Lib.hid hr'
  have hsz : W3.heap.size = w.heap.size + 3 := by simp [W3]
  have HSZ := Lib.hid hsz
  clear hr hr' hb3 k0 k1 k2 hsz
  go_enter Try.func17, Try.ntmps17
  go_wp2_with fail
  refine HC1.out.mono ?_
  rintro e w4 ⟨g, d, rfl, ho4, hb4⟩
  have P4 := Lib.hid (below_to HB3.out hb4 HB3.out.size)
  have K04 := K0.out.below hb4 K0.out.lt
  have K14 := K1.out.below hb4 K1.out.lt
  have K24 := K2.out.below hb4 K2.out.lt
  have hge : w.heap.size + 3 ≤ g := by have := ho4.le; have := HSZ.out; omega
  have a0 := K04.cell 0
  have a1 := K04.cell 1
  have b0 := K24.cell 0
  have b1 := K24.cell 1
  have z0 := K24.frozen 0
  have z1 := K24.frozen 1
  simp only [List.size_toArray, List.length_cons, List.length_nil, List.getElem?_toArray, List.getElem?_cons_zero, List.getElem?_cons_succ] at a0 a1 b0 b1
  let W5 := w4.setCell ⟨w.heap.size + 2, 0, none⟩ (.slice (some ⟨g, 0, none⟩) bs.length d)
  have hb5 : Below w.heap.size w W5 := P4.out.setCell (by simp) _
  have o5 : OwnB W5 W3.heap.size g d bs := OwnV.far ho4 (by simp; omega) _
  have k05 : Blk W5 w.heap.size 25 #[.slice A bs.length c, .slice A' ts.length c'] := K04.far (by simp) _
  have k15 : Blk W5 (w.heap.size + 1) 32 #[.slice none 0 0, .slice none 0 0] := K14.far (by simp) _
  have k25 : Blk W5 (w.heap.size + 2) 32 #[.slice (some ⟨g, 0, none⟩) bs.length d, .slice none 0 0] := by simpa using K24.set_ 0 (.slice (some ⟨g, 0, none⟩) bs.length d)
  have hc5 := k05.cell 1
  simp only [List.size_toArray, List.length_cons, List.length_nil, List.getElem?_toArray, List.getElem?_cons_zero, List.getElem?_cons_succ] at hc5
  have HC2 := Lib.hid (toIntS_any A' c' ts W5 hm (HR'.out.below hb5))
  have P5 := Lib.hid hb5
  have O5 := Lib.hid o5
  have L05 := Lib.hid k05
  have L15 := Lib.hid k15
  have L25 := Lib.hid k25
  have HW5 : Hid (W5 = w4.setCell ⟨w.heap.size + 2, 0, none⟩ (.slice (some ⟨g, 0, none⟩) bs.length d)) := Lib.hid rfl
  have HGE := Lib.hid hge
  clear_value W3 W5
  have c5a : W5.cell? ⟨w.heap.size, 1, none⟩ = some (.slice A' ts.length c') := hc5
  clear ho4 hb4 K04 K14 K24 hb5 o5 k05 k15 k25 HC1 K0 K1 K2 HB3
  go_wp2_with fail
  change Calls _ _ _ (w4.setCell ⟨w.heap.size + 2, 0, none⟩ _) _
  rw [← HW5.out]
  refine HC2.out.mono ?_
  rintro e w6 ⟨g', d', rfl, ho6, hb6⟩
  have P6 := Lib.hid (below_to P5.out hb6 P5.out.size)
  have K06 := L05.out.below hb6 L05.out.lt
  have K16 := L15.out.below hb6 L15.out.lt
  have K26 := L25.out.below hb6 L25.out.lt
  have B6 : OwnB w6 w.heap.size g d bs := OwnV.mono (OwnV.below O5.out hb6 O5.out.lt) (by have := HGE.out; omega)
  have hge6 : W5.heap.size ≤ g' := ho6.le
  have hgl : g < W5.heap.size := OwnB.lt O5.out
  have hne : g ≠ g' := by omega
  have h3 : w.heap.size + 3 ≤ g' := by have := HGE.out; omega
  have d0 := K26.cell 0
  have d1 := K26.cell 1
  have y0 := K26.frozen 0
  have y1 := K26.frozen 1
  have e0 := K16.cell 0
  have e1 := K16.cell 1
  have x0 := K16.frozen 0
  have x1 := K16.frozen 1
  simp only [List.size_toArray, List.length_cons, List.length_nil, List.getElem?_toArray, List.getElem?_cons_zero, List.getElem?_cons_succ] at d0 d1 e0 e1
  let W7 := w6.setCell ⟨w.heap.size + 1 + 1, 1, none⟩ (.slice (some ⟨g', 0, none⟩) ts.length d')
  have hb7 : Below w.heap.size w W7 := P6.out.setCell (by show w.heap.size ≤ w.heap.size + 1 + 1; omega) _
  let W8 := (W7.setCell ⟨w.heap.size + 1, 0, none⟩ (.slice (some ⟨g, 0, none⟩) bs.length d)).setCell ⟨w.heap.size + 1, 1, none⟩ (.slice (some ⟨g', 0, none⟩) ts.length d')
  have hb8 : Below w.heap.size w W8 := (hb7.setCell (by simp) _).setCell (by simp) _
  have B8 : OwnB W8 w.heap.size g d bs := OwnV.far (OwnV.far (OwnV.far B6 (by simp; have := HGE.out; omega) _) (by simp; have := HGE.out; omega) _) (by simp; have := HGE.out; omega) _
  have T8 : Own W8 w.heap.size g' d' ts := OwnV.far (OwnV.far (OwnV.far (OwnV.mono ho6 (by omega)) (by simp; omega) _) (by simp; omega) _) (by simp; omega) _
  have k18 : Blk W8 (w.heap.size + 1) 32 #[.slice (some ⟨g, 0, none⟩) bs.length d, .slice (some ⟨g', 0, none⟩) ts.length d'] := by simpa using ((K16.far (p := ⟨w.heap.size + 1 + 1, 1, none⟩) (by simp) (.slice (some ⟨g', 0, none⟩) ts.length d')).set_ 0 (.slice (some ⟨g, 0, none⟩) bs.length d)).set_ 1 (.slice (some ⟨g', 0, none⟩) ts.length d')
  have r0 : W8.cell? ⟨w.heap.size + 1, 0, none⟩ = some (.slice (some ⟨g, 0, none⟩) bs.length d) := k18.cell 0
  have r1 : W8.cell? ⟨w.heap.size + 1, 1, none⟩ = some (.slice (some ⟨g', 0, none⟩) ts.length d') := k18.cell 1
  have R0 := Lib.hid r0
  have R1 := Lib.hid r1
  have F8 : Hid (OwnB W8 w.heap.size g d bs ∧ Own W8 w.heap.size g' d' ts ∧ g ≠ g' ∧ Below w.heap.size w W8) := Lib.hid ⟨B8, T8, hne, hb8⟩
  clear r0 r1 k18 B8 T8 hb8 hb7 hne B6 ho6 hb6 K06 K16 K26 P6 P5 O5 L05 L15 L25 HC2 hge6 hgl
  go_wp2_with fail
  refine bodyPost_ret (v := .agg #[.slice (some ⟨g, 0, none⟩) bs.length d, .slice (some ⟨g', 0, none⟩) ts.length d']) (by have r0 := R0.out; have r1 := R1.out; simp only [W8, W7] at r0 r1; simp [results, Try.results17, go_sem, r0, r1]) rfl ⟨g, d, g', d', rfl, F8.out⟩

set_option maxHeartbeats 400000 in
theorem eqBlock_same (n : Int) (i o : Bool) (w : World) : Calls Try.prog 84 #[.agg #[.int .i64 n, .bool i, .bool o], .agg #[.int .i64 n, .bool i, .bool o]] w fun e w' => e = .returned (.bool true) ∧ Below w.heap.size w w' := by
  go_enter Try.func84, Try.ntmps84
  go_wp2
  go_ret
  exact ⟨rfl, below_new' (below_new w _) _⟩
set_option maxHeartbeats 800000 in
theorem eqBlockS_same (b off c b' off' c' : Nat) (bs : List BV) (w : World) (hn : bs.length ≤ 9223372036854775807) (hb : b < w.heap.size) (hb' : b' < w.heap.size) (ha : AtBl w b off bs) (ha' : AtBl w b' off' bs) :
    Calls Try.prog 54 #[.slice (some ⟨b, off, none⟩) bs.length c, .slice (some ⟨b', off', none⟩) bs.length c'] w fun e w' => e = .returned (.bool true) ∧ Below w.heap.size w w' := by
  have HA := Lib.hid ha
  have HA' := Lib.hid ha'
  clear ha ha'
  go_enter Try.func54, Try.ntmps54
  go_wp2
  go_loopw [5] (fun i wr => ∃ k : Nat, k ≤ bs.length ∧ i = .int .i64 k ∧ Below w.heap.size w wr) (fun i _ => bs.length - (intOf i).toNat)
  case atStart => exact ⟨0, Nat.zero_le _, rfl, Below.refl _ _⟩
  case round =>
    obtain ⟨k, hk, rfl, hbel⟩ := hrel
    by_cases hlt : k < bs.length
    · obtain ⟨p0, p1, p2⟩ := HA.out.below hbel hb k hlt
      obtain ⟨q0, q1, q2⟩ := HA'.out.below hbel hb' k hlt
      have i1 : (k : Int) < (bs.length : Int) := by omega
      obtain ⟨x, hx⟩ : ∃ x, bs.getD k Z3 = x := ⟨_, rfl⟩
      rw [hx] at p0 p1 p2 q0 q1 q2
      have HB := Lib.hid hbel
      have HE := Lib.hid (fun w => eqBlock_same x.1 x.2.1 x.2.2 w)
      clear hx hbel
      go_wp2_with fail
      go_region_held3 (fun w' => w'.cell? ⟨b, off + k * 3, none⟩ = some (.int .i64 x.1) ∧ w'.cell? ⟨b, off + k * 3 + 1, none⟩ = some (.bool x.2.1) ∧ w'.cell? ⟨b, off + k * 3 + 2, none⟩ = some (.bool x.2.2) ∧ w'.cell? ⟨b', off' + k * 3, none⟩ = some (.int .i64 x.1) ∧ w'.cell? ⟨b', off' + k * 3 + 1, none⟩ = some (.bool x.2.1) ∧ w'.cell? ⟨b', off' + k * 3 + 2, none⟩ = some (.bool x.2.2)) (go_keep) (first | (go_at_call 84; go_must (go_fit (HE.out _); rintro e w1 ⟨rfl, hb1⟩; have B1 := Lib.hid (below_to HB.out.drew hb1 HB.out.size); have g0 := (hb1.cell (p := ⟨b, off + k * 3, none⟩) (Nat.lt_of_lt_of_le hb HB.out.size)).trans (by simpa using p0); have g1 := (hb1.cell (p := ⟨b, off + k * 3 + 1, none⟩) (Nat.lt_of_lt_of_le hb HB.out.size)).trans (by simpa using p1); have g2 := (hb1.cell (p := ⟨b, off + k * 3 + 2, none⟩) (Nat.lt_of_lt_of_le hb HB.out.size)).trans (by simpa using p2); have r0 := (hb1.cell (p := ⟨b', off' + k * 3, none⟩) (Nat.lt_of_lt_of_le hb' HB.out.size)).trans (by simpa using q0); have r1 := (hb1.cell (p := ⟨b', off' + k * 3 + 1, none⟩) (Nat.lt_of_lt_of_le hb' HB.out.size)).trans (by simpa using q1); have r2 := (hb1.cell (p := ⟨b', off' + k * 3 + 2, none⟩) (Nat.lt_of_lt_of_le hb' HB.out.size)).trans (by simpa using q2); clear hb1)))
      go_wp2_with fail
      go_roundw
      case rel => exact ⟨k + 1, by omega, by go_num, B1.out⟩
      case measure => simp [intOf]; omega
    · go_wp2
      go_ret
      exact ⟨rfl, hbel⟩
set_option maxHeartbeats 800000 in
theorem eqLine_same (b c b' c' t d t' d' : Nat) (bs : List BV) (ts : List Int) (w : World) (hn : bs.length ≤ 1048576) (hm : ts.length ≤ 1048576) (hb : b < w.heap.size) (hb' : b' < w.heap.size) (ht : t < w.heap.size) (ht' : t' < w.heap.size)
    (ha : AtBl w b 0 bs) (ha' : AtBl w b' 0 bs) (hi : AtInts w t 0 ts) (hi' : AtInts w t' 0 ts) :
    Calls Try.prog 20 #[.agg #[.slice (some ⟨b, 0, none⟩) bs.length c, .slice (some ⟨t, 0, none⟩) ts.length d], .agg #[.slice (some ⟨b', 0, none⟩) bs.length c', .slice (some ⟨t', 0, none⟩) ts.length d']] w fun e w' => e = .returned (.bool true) ∧ Below w.heap.size w w' := by
  let W2 := (w.alloc (.cells #[.slice (some ⟨b, 0, none⟩) bs.length c, .slice (some ⟨t, 0, none⟩) ts.length d] 32)).alloc (.cells #[.slice (some ⟨b', 0, none⟩) bs.length c', .slice (some ⟨t', 0, none⟩) ts.length d'] 32)
  have h2 : Below w.heap.size w W2 := below_new' (below_new w _) _
  have k0 : Blk W2 w.heap.size 32 #[.slice (some ⟨b, 0, none⟩) bs.length c, .slice (some ⟨t, 0, none⟩) ts.length d] := (Blk.new w _ _).alloc _
  have k1 : Blk W2 (w.heap.size + 1) 32 #[.slice (some ⟨b', 0, none⟩) bs.length c', .slice (some ⟨t', 0, none⟩) ts.length d'] := by simpa using Blk.new (w.alloc _) _ _
  have HQ := Lib.hid (eqBlockS_same b 0 c b' 0 c' bs W2 (by omega) (Nat.lt_of_lt_of_le hb h2.size) (Nat.lt_of_lt_of_le hb' h2.size) (ha.below h2 hb) (ha'.below h2 hb'))
  have HI := Lib.hid (hi.below h2 ht)
  have HI' := Lib.hid (hi'.below h2 ht')
  have H2 := Lib.hid h2
  have K0 := Lib.hid k0
  have K1 := Lib.hid k1
  clear h2 k0 k1 ha ha' hi hi'
  go_enter Try.func20, Try.ntmps20
  go_wp2_with fail
  refine HQ.out.mono ?_
  rintro e w3 ⟨rfl, hb3⟩
  have B3 := Lib.hid (below_to H2.out hb3 H2.out.size)
  have a0 := (K0.out.below hb3 K0.out.lt).cell 1
  have a1 := (K1.out.below hb3 K1.out.lt).cell 1
  simp only [List.getElem?_toArray, List.getElem?_cons_zero, List.getElem?_cons_succ] at a0 a1
  have I3 := HI.out.below hb3 (Nat.lt_of_lt_of_le ht H2.out.size)
  have I3' := HI'.out.below hb3 (Nat.lt_of_lt_of_le ht' H2.out.size)
  have HE := Lib.hid (eqIntS_same t 0 d t' 0 d' ts w3 (by omega) I3 I3')
  clear hb3 I3 I3' K0 K1 HQ HI HI'
  clear_value W2
  go_wp2_with fail
  refine HE.out.mono ?_
  rintro e w4 ⟨rfl, hq4⟩
  have B4 := Lib.hid (below_to B3.out (hq4.below w3.heap.size) B3.out.size)
  clear hq4 HE B3
  go_wp2_with fail
  go_ret
  exact ⟨rfl, B4.out⟩

set_option maxHeartbeats 800000 in
theorem cloneB_any (b off c : Nat) (bs : List BV) (w : World) (hn : bs.length ≤ 1048576) (hc : AtBl w b off bs) (hb : b < w.heap.size) :
    Calls Try.prog 81 #[.slice (some ⟨b, off, none⟩) bs.length c] w (NewBl w bs) := by
  have hnil := fun w : World => Lib.run_eql_slice_nil (P := Try.prog) w 30 48 (some ⟨b, off, none⟩) bs.length c 0 0 Try.underlying30
  have HA : Hid (AtBl (w.alloc (.cells #[] 48)) b off bs) := hc.below (below_new w _) hb
  have ho : OwnV (w.alloc (.cells #[] 48)) w.heap.size 48 3 w.heap.size 0 0 [] := OwnV.lit #[] (Nat.le_refl _) (by unfold maxLen; omega) rfl
  have HO := Lib.hid ho
  have HB := Lib.hid (below_new w (.cells #[] 48))
  have HN : Hid (∀ (j : Nat) (u : Value), (bcells bs)[j]? = some u → (w.alloc (.cells #[] 48)).cell? ((⟨b, off, none⟩ : Addr).add j) = some u) := Lib.hid (by
    intro j u hu
    have hj := (List.getElem?_eq_some_iff.1 hu).1
    rw [bcells_length] at hj
    rw [Addr.add_lit]
    obtain ⟨k, hk⟩ : ∃ k, j = k * 3 ∨ j = k * 3 + 1 ∨ j = k * 3 + 2 := ⟨j / 3, by omega⟩
    rcases hk with rfl | rfl | rfl
    · obtain ⟨h0, h1, h2⟩ := HA.out k (by omega)
      obtain ⟨p0, p1, p2⟩ := bcells_get bs k (by omega)
      rw [p0] at hu; cases hu
      exact h0
    · obtain ⟨h0, h1, h2⟩ := HA.out k (by omega)
      obtain ⟨p0, p1, p2⟩ := bcells_get bs k (by omega)
      rw [p1] at hu; cases hu
      exact h1
    · obtain ⟨h0, h1, h2⟩ := HA.out k (by omega)
      obtain ⟨p0, p1, p2⟩ := bcells_get bs k (by omega)
      rw [p2] at hu; cases hu
      exact h2)
  clear hc hb ho
  go_enter Try.func81, Try.ntmps81
  go_wp2_with (at_builtin; refine wpList_app slBl rfl (.tmp 5) (.tmp 6) rfl _ rfl HO.out (news := bcells bs) rfl (bcells_length bs) HN.out (bcells_one bs) (by unfold maxLen; omega) (by omega) ?_; intro g' c' w' hown' hg' hat')
  go_ret
  have h1 : OwnB w' w.heap.size g' c' bs := by unfold OwnB; simpa using hown'
  exact ⟨g', c', by simp, h1, below_app HB.out hg' (Nat.le_refl _)⟩
end Go.Proofs.Ytmgakfbchhefcaa
