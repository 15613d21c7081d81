/-
  The laws FnExactTrackWalk and FnExactTrackPassed, walked call by call. No condition.
-/
import Derived.Test.YtohihdkeikobaaaPass
namespace Go.Proofs.Ytohihdkeikobaaa
open Go.RowKit
set_option linter.unusedVariables false

def ArgStrs (w : World) (A : Option Addr) (ss : List Bs) : Prop := RdStrs w A ss ∧ (∀ s ∈ ss, s.size ≤ 9223372036854775807) ∧ ss.length ≤ 9223372036854775807
theorem argStrs_nil (w : World) : ArgStrs w none [] := ⟨fun h => absurd h (by simp), by simp, by simp⟩
theorem argStrs_row {w : World} {x : Addr} {len cap : Nat} {zs : List Bs} (hl : len ≤ cap) (hm : cap ≤ maxLen) (hz : zs.length = cap) (hcell : ∀ i, i < zs.length → w.cell? (x.add i) = some (.string (zs.getD i ByteArray.empty))) (hwz : ∀ s ∈ zs, s.size ≤ maxLen) :
    ∃ ys : List Bs, ys.length = len ∧ ArgStrs w (some x) ys := by
  unfold maxLen at hm hwz
  refine ⟨zs.take len, by simp; omega, fun hp => ?_, fun z hzm => hwz z (List.mem_of_mem_take hzm), by simp; omega⟩
  have hlen : (zs.take len).length = len := by simp; omega
  obtain ⟨b, off, spot⟩ := x
  have hc := hcell 0 (by omega)
  have hspot : spot = none := by simpa [Addr.add] using World.cell?_spot hc
  subst hspot
  refine ⟨b, off, rfl, ?_, fun k hk => ?_⟩
  · rcases Nat.lt_or_ge b w.heap.size with h | h
    · exact h
    · simp [Addr.add, World.cell?, Array.getElem?_eq_none h] at hc
  · have h1 := hcell k (by omega)
    rw [Addr.add_lit] at h1
    rw [h1]
    simp [List.getD, show k < len by omega]
theorem ownS_max {w : World} {base g c : Nat} {ss : List Bs} (h : OwnS w base g c ss) : c ≤ 9223372036854775807 := by
  obtain ⟨_, cur, _, _, _, hc, _⟩ := OwnV.parts h
  exact hc
theorem spec_walkB (b off c : Nat) (ss : List Bs) (w : World) (hn : ss.length ≤ 1099511627776) (hsz : ∀ s ∈ ss, s.size ≤ 9223372036854775807) (ha : AtStrs w b off ss) :
    Calls Try.prog 33 #[.slice (some ⟨b, off, none⟩) ss.length c] w fun e w' => e = .returned (.bool (walkB ss)) ∧ Below w.heap.size w w' :=
  (spec_walk b off c ss w hn hsz ha).mono fun _ _ h => ⟨h.1, h.2.below _⟩

set_option maxHeartbeats 1600000 in
theorem law_ExactTrackWalk (A : Option Addr) (c : Nat) (ss : List Bs) (w : World) (hqss : ArgStrs w A ss) :
    Calls Try.prog 10 #[.slice A ss.length c] w fun e w' => e = .returned (.bool true) ∧ Below w.heap.size w w' := by
  obtain ⟨hrss, hzss, hnss⟩ := hqss
  have Rss := Lib.hid hrss
  have Zss := Lib.hid hzss
  clear hrss hzss
  have hsv : szV ss ((1048576 : Nat) : Int) = if (ss.length : Int) + (sumS ss : Int) ≤ 1048576 then (1048576 : Int) - ss.length - sumS ss else -1 := by unfold szV; rfl
  have hszc := fun w hr => szStringS_any A c ss 1048576 w hnss Zss.out (by omega) hr
  by_cases hbig : (ss.length : Int) + (sumS ss : Int) ≤ 1048576
  rotate_left
  · have hv : szV ss ((1048576 : Nat) : Int) = -1 := by rw [hsv, if_neg hbig]
    rw [hv] at hszc
    have HSZ := Lib.hid hszc
    clear hszc hsv hv hbig
    go_enter Try.func10, Try.ntmps10
    go_wp2_with fail
    refine (HSZ.out _ Rss.out).mono ?_
    rintro e w' ⟨rfl, rfl⟩
    go_wp2_with fail
    go_ret
    exact ⟨rfl, Below.refl _ _⟩
  obtain ⟨L, hL⟩ : ∃ L : Nat, szV ss ((1048576 : Nat) : Int) = (L : Int) := ⟨((1048576 : Int) - (ss.length : Int) - (sumS ss : Int)).toNat, by rw [hsv, if_pos hbig]; omega⟩
  rw [hL] at hszc
  have HSZ := Lib.hid hszc
  have hlen : ss.length ≤ 1048576 := by omega
  clear hszc hsv hL hbig
  go_enter Try.func10, Try.ntmps10
  have BB0 : Hid (Below w.heap.size w w) := Below.refl _ _
  go_wp2_with fail
  refine (HSZ.out _ Rss.out).mono ?_
  rintro e w' ⟨rfl, rfl⟩
  go_wp2_with fail
  refine (toStringS_any A c ss _ (by omega) (Rss.out.below BB0.out)).mono ?_
  rintro e w1 ⟨gW, cW, rfl, how1, hbw1⟩
  have GW : w.heap.size ≤ gW := Nat.le_trans BB0.out.size how1.le
  have BBw1 : Hid (Below w.heap.size w w1) := below_to BB0.out hbw1 BB0.out.size
  clear BB0
  have OW_w1 : Hid (OwnS w1 w.heap.size gW cW (ss)) := OwnV.mono how1 GW
  clear how1 hbw1
  go_wp2_with fail
  refine (spec_walkB _ 0 _ ss _ (by omega) Zss.out OW_w1.out.at).mono ?_
  rintro e w2 ⟨rfl, hbw2⟩
  have OW_w2 : Hid (OwnS w2 w.heap.size gW cW (ss)) := OW_w1.out.below hbw2 OW_w1.out.lt
  clear OW_w1
  have BBw2 : Hid (Below w.heap.size w w2) := below_to BBw1.out hbw2 BBw1.out.size
  clear BBw1
  clear hbw2
  go_wp2_with fail
  refine (toStringS_any A c ss _ (by omega) (Rss.out.below BBw2.out)).mono ?_
  rintro e w3 ⟨gX, cX, rfl, how3, hbw3⟩
  have LW_X : gW < gX := Nat.lt_of_lt_of_le OW_w2.out.lt how3.le
  have GX : w.heap.size ≤ gX := Nat.le_trans BBw2.out.size how3.le
  have OW_w3 : Hid (OwnS w3 w.heap.size gW cW (ss)) := OW_w2.out.below hbw3 OW_w2.out.lt
  clear OW_w2
  have BBw3 : Hid (Below w.heap.size w w3) := below_to BBw2.out hbw3 BBw2.out.size
  clear BBw2
  have OX_w3 : Hid (OwnS w3 w.heap.size gX cX (ss)) := OwnV.mono how3 GX
  clear how3 hbw3
  go_wp2_with fail
  refine (impl_walk _ 0 _ ss _ (by omega) (OwnV.cap OX_w3.out) (ownS_max OX_w3.out) Zss.out OX_w3.out.lt OX_w3.out.at).mono ?_
  rintro e w4 ⟨rfl, hbw4⟩
  have OW_w4 : Hid (OwnS w4 w.heap.size gW cW (ss)) := OW_w3.out.below hbw4 OW_w3.out.lt
  clear OW_w3
  have OX_w4 : Hid (OwnS w4 w.heap.size gX cX (ss)) := OX_w3.out.below hbw4 OX_w3.out.lt
  clear OX_w3
  have BBw4 : Hid (Below w.heap.size w w4) := below_to BBw3.out hbw4 BBw3.out.size
  clear BBw3
  clear hbw4
  go_wp2_with fail
  refine (toStringS_any A c ss _ (by omega) (Rss.out.below BBw4.out)).mono ?_
  rintro e w5 ⟨gY, cY, rfl, how5, hbw5⟩
  have LW_Y : gW < gY := Nat.lt_of_lt_of_le OW_w4.out.lt how5.le
  have LX_Y : gX < gY := Nat.lt_of_lt_of_le OX_w4.out.lt how5.le
  have GY : w.heap.size ≤ gY := Nat.le_trans BBw4.out.size how5.le
  have OW_w5 : Hid (OwnS w5 w.heap.size gW cW (ss)) := OW_w4.out.below hbw5 OW_w4.out.lt
  clear OW_w4
  have OX_w5 : Hid (OwnS w5 w.heap.size gX cX (ss)) := OX_w4.out.below hbw5 OX_w4.out.lt
  clear OX_w4
  have BBw5 : Hid (Below w.heap.size w w5) := below_to BBw4.out hbw5 BBw4.out.size
  clear BBw4
  have OY_w5 : Hid (OwnS w5 w.heap.size gY cY (ss)) := OwnV.mono how5 GY
  clear how5 hbw5
  go_wp2_with fail
  refine (eqStringS_same _ _ _ _ _ _ (ss) _ (by omega) OX_w5.out.at OY_w5.out.at).mono ?_
  rintro e w6 ⟨rfl, hqw6⟩
  have OW_w6 : Hid (OwnS w6 w.heap.size gW cW (ss)) := OW_w5.out.below (hqw6.below _) OW_w5.out.lt
  clear OW_w5
  have OX_w6 : Hid (OwnS w6 w.heap.size gX cX (ss)) := OX_w5.out.below (hqw6.below _) OX_w5.out.lt
  clear OX_w5
  have OY_w6 : Hid (OwnS w6 w.heap.size gY cY (ss)) := OY_w5.out.below (hqw6.below _) OY_w5.out.lt
  clear OY_w5
  have BBw6 : Hid (Below w.heap.size w w6) := below_to BBw5.out (hqw6.below _) BBw5.out.size
  clear BBw5
  clear hqw6
  go_wp2_with fail
  go_ret
  exact ⟨rfl, BBw6.out⟩

set_option maxHeartbeats 1600000 in
theorem law_ExactTrackPassed (A : Option Addr) (c : Nat) (ss : List Bs) (w : World) (hqss : ArgStrs w A ss) :
    Calls Try.prog 11 #[.slice A ss.length c] w fun e w' => e = .returned (.bool true) ∧ Below w.heap.size w w' := by
  obtain ⟨hrss, hzss, hnss⟩ := hqss
  have Rss := Lib.hid hrss
  have Zss := Lib.hid hzss
  clear hrss hzss
  have hsv : szV ss ((1048576 : Nat) : Int) = if (ss.length : Int) + (sumS ss : Int) ≤ 1048576 then (1048576 : Int) - ss.length - sumS ss else -1 := by unfold szV; rfl
  have hszc := fun w hr => szStringS_any A c ss 1048576 w hnss Zss.out (by omega) hr
  by_cases hbig : (ss.length : Int) + (sumS ss : Int) ≤ 1048576
  rotate_left
  · have hv : szV ss ((1048576 : Nat) : Int) = -1 := by rw [hsv, if_neg hbig]
    rw [hv] at hszc
    have HSZ := Lib.hid hszc
    clear hszc hsv hv hbig
    go_enter Try.func11, Try.ntmps11
    go_wp2_with fail
    refine (HSZ.out _ Rss.out).mono ?_
    rintro e w' ⟨rfl, rfl⟩
    go_wp2_with fail
    go_ret
    exact ⟨rfl, Below.refl _ _⟩
  obtain ⟨L, hL⟩ : ∃ L : Nat, szV ss ((1048576 : Nat) : Int) = (L : Int) := ⟨((1048576 : Int) - (ss.length : Int) - (sumS ss : Int)).toNat, by rw [hsv, if_pos hbig]; omega⟩
  rw [hL] at hszc
  have HSZ := Lib.hid hszc
  have hlen : ss.length ≤ 1048576 := by omega
  clear hszc hsv hL hbig
  go_enter Try.func11, Try.ntmps11
  have BB0 : Hid (Below w.heap.size w w) := Below.refl _ _
  go_wp2_with fail
  refine (HSZ.out _ Rss.out).mono ?_
  rintro e w' ⟨rfl, rfl⟩
  go_wp2_with fail
  refine (toStringS_any A c ss _ (by omega) (Rss.out.below BB0.out)).mono ?_
  rintro e w1 ⟨gW, cW, rfl, how1, hbw1⟩
  have GW : w.heap.size ≤ gW := Nat.le_trans BB0.out.size how1.le
  have BBw1 : Hid (Below w.heap.size w w1) := below_to BB0.out hbw1 BB0.out.size
  clear BB0
  have OW_w1 : Hid (OwnS w1 w.heap.size gW cW (ss)) := OwnV.mono how1 GW
  clear how1 hbw1
  go_wp2_with fail
  refine (spec_passed _ 0 _ ss _ (by omega) (OwnV.cap OW_w1.out) (ownS_max OW_w1.out) Zss.out OW_w1.out.lt OW_w1.out.at).mono ?_
  rintro e w2 ⟨rfl, hbw2⟩
  have OW_w2 : Hid (OwnS w2 w.heap.size gW cW (ss)) := OW_w1.out.below hbw2 OW_w1.out.lt
  clear OW_w1
  have BBw2 : Hid (Below w.heap.size w w2) := below_to BBw1.out hbw2 BBw1.out.size
  clear BBw1
  clear hbw2
  go_wp2_with fail
  refine (toStringS_any A c ss _ (by omega) (Rss.out.below BBw2.out)).mono ?_
  rintro e w3 ⟨gX, cX, rfl, how3, hbw3⟩
  have LW_X : gW < gX := Nat.lt_of_lt_of_le OW_w2.out.lt how3.le
  have GX : w.heap.size ≤ gX := Nat.le_trans BBw2.out.size how3.le
  have OW_w3 : Hid (OwnS w3 w.heap.size gW cW (ss)) := OW_w2.out.below hbw3 OW_w2.out.lt
  clear OW_w2
  have BBw3 : Hid (Below w.heap.size w w3) := below_to BBw2.out hbw3 BBw2.out.size
  clear BBw2
  have OX_w3 : Hid (OwnS w3 w.heap.size gX cX (ss)) := OwnV.mono how3 GX
  clear how3 hbw3
  go_wp2_with fail
  refine (impl_passed _ 0 _ ss _ (by omega) (OwnV.cap OX_w3.out) (ownS_max OX_w3.out) Zss.out OX_w3.out.lt OX_w3.out.at).mono ?_
  rintro e w4 ⟨rfl, hbw4⟩
  have OW_w4 : Hid (OwnS w4 w.heap.size gW cW (ss)) := OW_w3.out.below hbw4 OW_w3.out.lt
  clear OW_w3
  have OX_w4 : Hid (OwnS w4 w.heap.size gX cX (ss)) := OX_w3.out.below hbw4 OX_w3.out.lt
  clear OX_w3
  have BBw4 : Hid (Below w.heap.size w w4) := below_to BBw3.out hbw4 BBw3.out.size
  clear BBw3
  clear hbw4
  go_wp2_with fail
  refine (toStringS_any A c ss _ (by omega) (Rss.out.below BBw4.out)).mono ?_
  rintro e w5 ⟨gY, cY, rfl, how5, hbw5⟩
  have LW_Y : gW < gY := Nat.lt_of_lt_of_le OW_w4.out.lt how5.le
  have LX_Y : gX < gY := Nat.lt_of_lt_of_le OX_w4.out.lt how5.le
  have GY : w.heap.size ≤ gY := Nat.le_trans BBw4.out.size how5.le
  have OW_w5 : Hid (OwnS w5 w.heap.size gW cW (ss)) := OW_w4.out.below hbw5 OW_w4.out.lt
  clear OW_w4
  have OX_w5 : Hid (OwnS w5 w.heap.size gX cX (ss)) := OX_w4.out.below hbw5 OX_w4.out.lt
  clear OX_w4
  have BBw5 : Hid (Below w.heap.size w w5) := below_to BBw4.out hbw5 BBw4.out.size
  clear BBw4
  have OY_w5 : Hid (OwnS w5 w.heap.size gY cY (ss)) := OwnV.mono how5 GY
  clear how5 hbw5
  go_wp2_with fail
  refine (eqStringS_same _ _ _ _ _ _ (ss) _ (by omega) OX_w5.out.at OY_w5.out.at).mono ?_
  rintro e w6 ⟨rfl, hqw6⟩
  have OW_w6 : Hid (OwnS w6 w.heap.size gW cW (ss)) := OW_w5.out.below (hqw6.below _) OW_w5.out.lt
  clear OW_w5
  have OX_w6 : Hid (OwnS w6 w.heap.size gX cX (ss)) := OX_w5.out.below (hqw6.below _) OX_w5.out.lt
  clear OX_w5
  have OY_w6 : Hid (OwnS w6 w.heap.size gY cY (ss)) := OY_w5.out.below (hqw6.below _) OY_w5.out.lt
  clear OY_w5
  have BBw6 : Hid (Below w.heap.size w w6) := below_to BBw5.out (hqw6.below _) BBw5.out.size
  clear BBw5
  clear hqw6
  go_wp2_with fail
  go_ret
  exact ⟨rfl, BBw6.out⟩

end Go.Proofs.Ytohihdkeikobaaa
