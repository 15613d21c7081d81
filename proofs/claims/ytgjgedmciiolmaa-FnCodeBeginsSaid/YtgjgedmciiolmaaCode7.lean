/-
  CodeBegins of the program and of the reference; the drawing of two codes. No condition but lengths that fit.
-/
import Derived.Test.YtgjgedmciiolmaaCode6
namespace Go.Proofs.Ytgjgedmciiolmaa
open Go.RowKit
set_option linter.unusedVariables false

def begB (xs ys : List Int) : Bool := codeB xs && codeB ys && decide (xs.length < ys.length) && decide (xs = ys.take xs.length)
theorem begB_iff {xs ys : List Int} : begB xs ys = true ↔ codeB xs = true ∧ codeB ys = true ∧ xs.length < ys.length ∧ xs = ys.take xs.length := by
  unfold begB
  simp only [Bool.and_eq_true, decide_eq_true_eq]
  constructor
  · rintro ⟨⟨⟨h1, h2⟩, h3⟩, h4⟩; exact ⟨h1, h2, h3, h4⟩
  · rintro ⟨h1, h2, h3, h4⟩; exact ⟨⟨⟨h1, h2⟩, h3⟩, h4⟩
theorem AtInts.take' {w : World} {g off : Nat} {zs : List Int} (h : AtInts w g off zs) (m : Nat) : AtInts w g off (zs.take m) := fun k hk => by
  have hk' : k < zs.length ∧ k < m := by simp at hk; omega
  rw [h k hk'.1]
  simp [List.getD, hk'.1, hk'.2]

set_option maxHeartbeats 400000 in
theorem l1Same_any (b off c b' off' c' : Nat) (xs ys : List Int) (w : World) (hn : xs.length ≤ 9223372036854775807) (hn' : ys.length ≤ 9223372036854775807) (ha : AtInts w b off xs) (hb : AtInts w b' off' ys) :
    Calls Try.prog 43 #[.slice (some ⟨b, off, none⟩) xs.length c, .slice (some ⟨b', off', none⟩) ys.length c'] w fun e w' => e = .returned (.bool (decide (xs = ys))) ∧ ∃ n, w' = w.drewN n := by
  generalize hr : decide (xs = ys) = r
  have HR := Lib.hid hr
  have HA := Lib.hid ha
  have HB := Lib.hid hb
  clear ha hb hr
  by_cases hl : xs.length = ys.length
  · have t0 := bne_f (show (xs.length : Int) = (ys.length : Int) by omega)
    have HL := Lib.hid hl
    have hl1 : xs.length ≤ ys.length := by omega
    have hl2 : ys.length ≤ xs.length := by omega
    clear hl
    go_enter Try.func43, Try.ntmps43
    go_wp2
    go_loopw [5] (fun i wr => ∃ k n : Nat, k ≤ xs.length ∧ i = .int .i64 k ∧ xs.take k = ys.take k ∧ wr = w.drewN n) (fun i _ => xs.length - (intOf i).toNat)
    case atStart => exact ⟨0, 0, Nat.zero_le _, rfl, rfl, rfl⟩
    case round =>
      obtain ⟨k, n, hk, rfl, hp, rfl⟩ := hrel
      have HP := Lib.hid hp
      clear hp
      by_cases hlt : k < xs.length
      · have hc1 := HA.out.at k hlt
        have hc2 := HB.out.at k (by omega)
        have i1 : (k : Int) < (xs.length : Int) := by omega
        have i2 : (k : Int) < (ys.length : Int) := by omega
        obtain ⟨x, hx⟩ : ∃ x, xs.getD k 0 = x := ⟨_, rfl⟩
        obtain ⟨y, hy⟩ : ∃ y, ys.getD k 0 = y := ⟨_, rfl⟩
        rw [hx] at hc1
        rw [hy] at hc2
        have HX := Lib.hid hx
        have HY := Lib.hid hy
        clear hx hy
        by_cases hxy : x = y
        · have t1 := bne_f hxy
          have HXY := Lib.hid hxy
          clear hxy
          go_wp2
          go_quiet (fail)
          go_wp2
          go_roundw
          case rel => exact ⟨k + 1, _, by omega, by go_num, take_eq_succ hlt (by omega) HP.out (by rw [HX.out, HY.out, HXY.out]), rfl⟩
          case measure => simp [intOf]; omega
        · have t1 := bne_t hxy
          have HXY := Lib.hid hxy
          clear hxy
          go_wp2
          go_quiet (fail)
          go_wp2
          go_ret
          exact ⟨ret_bool (by rw [← HR.out]; exact (dec_f (ne_of_at (k := k) (by rw [HX.out, HY.out]; exact HXY.out))).symm), _, World.drewN_drewN _ _ _⟩
      · go_wp2
        go_ret
        refine ⟨ret_bool ?_, _, rfl⟩
        rw [← HR.out]
        have := HP.out
        rw [List.take_of_length_le (by omega), List.take_of_length_le (by omega)] at this
        exact (dec_t this).symm
  · have t0 := bne_t (show (xs.length : Int) ≠ (ys.length : Int) by omega)
    have HL := Lib.hid hl
    clear hl
    go_enter Try.func43, Try.ntmps43
    go_wp2
    go_ret
    exact ⟨ret_bool (by rw [← HR.out]; exact (dec_f (fun h => HL.out (by rw [h]))).symm), 0, rfl⟩

set_option maxHeartbeats 800000 in
theorem spec_begins (b c b' c' : Nat) (xs ys : List Int) (w : World) (hn : xs.length ≤ 1048576) (hn' : ys.length ≤ 1048576) (hc : ys.length ≤ c') (ha : AtInts w b 0 xs) (hb : AtInts w b' 0 ys) :
    Calls Try.prog 21 #[.slice (some ⟨b, 0, none⟩) xs.length c, .slice (some ⟨b', 0, none⟩) ys.length c'] w fun e w' => e = .returned (.bool (begB xs ys)) ∧ Qt w w' := by
  have hx := spec_codev b 0 c xs w (by omega) ha
  have hy := spec_codev b' 0 c' ys w (by omega) hb
  have hbg : begB xs ys = (codeB xs && codeB ys && decide (xs.length < ys.length) && decide (xs = ys.take xs.length)) := rfl
  rw [hbg]
  by_cases h1 : codeB xs = true
  · rw [h1] at hx
    by_cases h2 : codeB ys = true
    · rw [h2] at hy
      by_cases h3 : xs.length < ys.length
      · have hs := l1Same_any b 0 c b' 0 c' xs (ys.take xs.length) w (by omega) (by simp; omega) ha (hb.take' _)
        rw [show (ys.take xs.length).length = xs.length by simp; omega] at hs
        rw [h1, h2, dec_t h3]
        generalize decide (xs = ys.take xs.length) = r at *
        have HX := Lib.hid hx
        have HY := Lib.hid hy
        have HS := Lib.hid hs
        have t0 := dec_t h3
        have i1 : (xs.length : Int) ≤ (c' : Int) := by omega
        clear hx hy hs h1 h2 ha hb hbg
        go_enter Try.func21, Try.ntmps21
        go_wp2_with fail
        refine HX.out.mono ?_
        rintro e w' ⟨rfl, rfl⟩
        go_wp2_with fail
        refine HY.out.mono ?_
        rintro e w' ⟨rfl, rfl⟩
        go_wp2_with fail
        refine HS.out.mono ?_
        rintro e w2 ⟨rfl, n2, rfl⟩
        go_wp2_with fail
        go_ret
        exact ⟨by simp, n2, rfl⟩
      · rw [h1, h2, dec_f h3]
        have HX := Lib.hid hx
        have HY := Lib.hid hy
        have t0 := dec_f h3
        clear hx hy h1 h2 ha hb hbg
        go_enter Try.func21, Try.ntmps21
        go_wp2_with fail
        refine HX.out.mono ?_
        rintro e w' ⟨rfl, rfl⟩
        go_wp2_with fail
        refine HY.out.mono ?_
        rintro e w' ⟨rfl, rfl⟩
        go_wp2_with fail
        go_ret
        exact ⟨rfl, 0, rfl⟩
    · rw [show codeB ys = false by simpa using h2] at hy ⊢
      rw [h1]
      have HX := Lib.hid hx
      have HY := Lib.hid hy
      clear hx hy h1 h2 ha hb hbg
      go_enter Try.func21, Try.ntmps21
      go_wp2_with fail
      refine HX.out.mono ?_
      rintro e w' ⟨rfl, rfl⟩
      go_wp2_with fail
      refine HY.out.mono ?_
      rintro e w' ⟨rfl, rfl⟩
      go_wp2_with fail
      go_ret
      exact ⟨rfl, 0, rfl⟩
  · rw [show codeB xs = false by simpa using h1] at hx ⊢
    have HX := Lib.hid hx
    clear hx hy h1 ha hb hbg
    go_enter Try.func21, Try.ntmps21
    go_wp2_with fail
    refine HX.out.mono ?_
    rintro e w' ⟨rfl, rfl⟩
    go_wp2_with fail
    go_ret
    exact ⟨rfl, 0, rfl⟩

theorem ub_inj {x y : Int} (h1 : 1 ≤ x) (h6 : x ≤ 6) (h1' : 1 ≤ y) (h6' : y ≤ 6) (h : ub x = ub y) : x = y := by
  rw [← ub_toNat h1 h6, ← ub_toNat h1' h6', h]
theorem map_ub_inj : ∀ {xs ys : List Int}, xs.all (inB 1 6) = true → ys.all (inB 1 6) = true → xs.map ub = ys.map ub → xs = ys := by
  intro xs
  induction xs with
  | nil => intro ys _ _ h; cases ys with
    | nil => rfl
    | cons y ys => simp at h
  | cons x xs ih =>
    intro ys hx hy h
    cases ys with
    | nil => simp at h
    | cons y ys =>
      simp only [List.all_cons, Bool.and_eq_true, inB_iff] at hx hy
      simp only [List.map_cons, List.cons.injEq] at h
      rw [ub_inj hx.1.1 hx.1.2 hy.1.1 hy.1.2 h.1, ih hx.2 hy.2 h.2]
theorem cbs_ext (ys : List Int) (m : Nat) : (cbs ys).extract 0 m = cbs (ys.take m) := by
  apply byteArray_ext
  rw [ext_data]
  show ((ys.map ub).drop 0).take (m - 0) = (ys.take m).map ub
  simp [List.map_take]
theorem cbs_inj {xs ys : List Int} (hx : xs.all (inB 1 6) = true) (hy : ys.all (inB 1 6) = true) (h : cbs xs = cbs ys) : xs = ys := by
  have : (cbs xs).data.toList = (cbs ys).data.toList := by rw [h]
  exact map_ub_inj hx hy this

set_option maxHeartbeats 400000 in
theorem hasPrefix0_any (xs ys : List Int) (w : World) (hl : xs.length < ys.length) (h9 : ys.length ≤ 5) (hx : xs.all (inB 1 6) = true) (hy : ys.all (inB 1 6) = true) :
    Calls Try.prog 61 #[.string (cbs ys), .string (cbs xs)] w fun e w' => e = .returned (.bool (decide (xs = ys.take xs.length))) ∧ w = w' := by
  have hzx := cbs_size xs
  have hzy := cbs_size ys
  have hex := cbs_ext ys xs.length
  have t0 := dec_t (show ((cbs xs).size : Int) ≤ ((cbs ys).size : Int) by omega)
  have j1 : (cbs xs).size ≤ (cbs ys).size := by omega
  have j2 : ((cbs xs).size : Int) ≤ ((cbs ys).size : Int) := by omega
  clear t0
  rw [← hzx] at hex
  by_cases he : xs = ys.take xs.length
  · rw [dec_t he]
    have heq : (cbs ys).extract 0 (cbs xs).size = cbs xs := by rw [hex, hzx, ← he]
    generalize cbs xs = X at *
    generalize cbs ys = Y at *
    clear hex he hzx hzy
    go_enter Try.func61, Try.ntmps61
    go_wp2_with fail
    go_ret
    exact ⟨rfl, rfl⟩
  · rw [dec_f he]
    have hne : (cbs ys).extract 0 (cbs xs).size ≠ cbs xs := by
      rw [hex, hzx]
      intro h
      refine he (cbs_inj hx ?_ h.symm)
      rw [List.all_eq_true] at hy ⊢
      exact fun z hz => hy z (List.mem_of_mem_take hz)
    generalize hE : (cbs ys).extract 0 (cbs xs).size = E at *
    obtain ⟨t1, t2⟩ : (E.toList == (cbs xs).toList) = false ∧ (E.toList != (cbs xs).toList) = true := by
      have hn : E.toList ≠ (cbs xs).toList := fun e => hne (byteArray_ext (by rw [ByteArray.toList_eq, ByteArray.toList_eq] at e; exact e))
      exact ⟨by simpa using hn, by simpa using hn⟩
    generalize cbs xs = X at *
    generalize cbs ys = Y at *
    clear hex he hzx hzy hne
    go_enter Try.func61, Try.ntmps61
    go_wp2_with fail
    go_ret
    exact ⟨rfl, rfl⟩

end Go.Proofs.Ytgjgedmciiolmaa
