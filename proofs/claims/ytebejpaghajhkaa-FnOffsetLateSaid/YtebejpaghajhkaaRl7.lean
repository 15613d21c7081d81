/-
  A later register has a greater offset: the law FnOffsetLate. No condition.
-/
import Derived.Test.YtebejpaghajhkaaRg26
import Derived.Test.YtebejpaghajhkaaRg33
namespace Go.Proofs.Ytebejpaghajhkaa
open Go.RowKit
set_option linter.unusedVariables false
set_option linter.unusedSimpArgs false

theorem later_off {xs ys : List NV} {sl : Int} {j : Nat} (h : offV xs ys sl = some j) (hl : lateB ys 3 = true) (h0 : xs.length ≠ 0) (hj0 : (j : Int) - 30 ≠ -30) :
    (offE (offV xs (lat ys 3) sl) = .tuple #[.int .i64 ((j : Int) - 30 + 3), .bool true]) ∨ (offE (offV xs (lat ys 3) sl) = .tuple #[.int .i64 0, .bool false] ∧ 30 < (j : Int) - 30 + 3) := by
  rw [late_law h hl (by omega) (by omega)]
  by_cases e : j + 3 < 61
  · rw [if_pos e, offE_some]
    left
    rw [show ((j + 3 : Nat) : Int) - 30 = (j : Int) - 30 + 3 by omega]
  · rw [if_neg e, offE_none]
    exact .inr ⟨rfl, by omega⟩
set_option maxRecDepth 100000 in
set_option maxHeartbeats 3200000 in
theorem law_OffsetLate (A : Option Addr) (c : Nat) (zs : List Int) (w : World) (hq : ArgBytes w A c zs) :
    Calls Try.prog 13 #[.slice A zs.length c] w fun e w' => e = .returned (.bool true) ∧ Below w.heap.size w w' := by
  obtain ⟨hr, hlc, hc⟩ := hq
  by_cases hbig : 1048576 < zs.length
  · have t0 := dec_t (show (1048576 : Int) < (zs.length : Int) by omega)
    go_enter Try.func13, Try.ntmps13
    go_wp2_with fail
    go_ret
    exact ⟨rfl, Below.refl _ _⟩
  have t0 := dec_f (show ¬ (1048576 : Int) < (zs.length : Int) by omega)
  have HD := Lib.hid (draw_roffset A c zs.length w hlc hc hr)
  clear hr
  go_enter Try.func13, Try.ntmps13
  go_wp2_with fail
  refine HD.out.mono ?_
  rintro e w1 ⟨xs, ys, g, c1, g', c2, sl, rfl, ho, ho', hsz, hsz', hn, hn', hsl, hb1⟩
  have L1 : Hid (Lw w w1 g xs g' ys) := Lib.hid ⟨⟨hb1, ho.lt, ho.at⟩, ⟨hb1, ho'.lt, ho'.at⟩⟩
  have SX := Lib.hid (szN_of hsz hn)
  have SY := Lib.hid (szN_of hsz' hn')
  clear ho ho' hsz hsz' hb1 HD
  have hi := fun (W : World) (h : Lw w W g xs g' ys) => implOffset_any (some ⟨g, 0, none⟩) (some ⟨g', 0, none⟩) c1 c2 xs ys sl W SX.out SY.out h.1.rd h.2.rd
  have hs := fun (W : World) (h : Lw w W g xs g' ys) => specOffset_any (some ⟨g, 0, none⟩) (some ⟨g', 0, none⟩) c1 c2 xs ys sl W SX.out SY.out h.1.rd h.2.rd
  cases hv : offV xs ys sl with
  | none =>
    rw [hv, offE_none] at hi hs
    have HI := Lib.hid hi
    have HS := Lib.hid hs
    clear hi hs hv
    go_wp2_with fail
    refine (HI.out _ L1.out).mono ?_
    rintro e w2 ⟨rfl, hb2⟩
    have L2 := Lib.hid (L1.out.step hb2)
    clear hb2 L1
    go_wp2_with fail
    refine (HS.out _ L2.out).mono ?_
    rintro e w3 ⟨rfl, hb3⟩
    have L3 := Lib.hid (L2.out.step hb3)
    clear hb3 L2
    go_wp2_with fail
    go_ret
    exact ⟨rfl, L3.out.1.1⟩
  | some j =>
    obtain ⟨hlen, hj, hs5, _, _, _⟩ := offset_law hv
    have HLEN := Lib.hid hlen
    have hlt := fun (W : World) (h : Lw w W g xs g' ys) => implLate_any (some ⟨g', 0, none⟩) c2 ys 3 W SY.out h.2.rd
    rw [hv, offE_some] at hi hs
    have HI := Lib.hid hi
    have HS := Lib.hid hs
    have e1 := bne_f (show (j : Int) - 30 = (j : Int) - 30 from rfl)
    have e2 := beq_t (show (j : Int) - 30 = (j : Int) - 30 from rfl)
    have t5 : IntKind.i64.wrap ((j : Int) - 30 + 3) = (j : Int) - 30 + 3 := IntWalk.i64_in _ (by omega)
    have t4 := beq_t (show (xs.length : Int) = (ys.length : Int) by omega)
    have t4n : (xs.length == ys.length) = true := by simpa using hlen
    have T4 := Lib.hid (And.intro t4 t4n)
    clear hi hs hlen t4 t4n
    cases hlb : lateB ys 3 with
    | false =>
      have h5 := fun (W : World) (k : Nat) (a : Nat) (h : Lw w W g xs g' ys) (hk : k < W.heap.size) => implOffset_any (some ⟨g, 0, none⟩) (some ⟨k, 0, none⟩) c1 a xs [] sl W SX.out ⟨by simp, fun k hk => absurd hk (by simp)⟩ h.1.rd (fun h => absurd h (by simp))
      obtain ⟨ov, hov⟩ : ∃ ov, offV xs [] sl = ov := ⟨_, rfl⟩
      rw [hov] at h5
      obtain ⟨x, hx⟩ := offE_is ov
      rw [hx] at h5
      have hlf := hlt
      simp only [lateR_f hlb] at hlf
      have HLT := Lib.hid hlf
      have H5 := Lib.hid h5
      clear hlt hlf h5 hov hx hv hlb
      generalize ov.isSome = B at *
      go_wp2_with fail
      refine (HI.out _ L1.out).mono ?_
      rintro e w2 ⟨rfl, hb2⟩
      have L2 := Lib.hid (L1.out.step hb2)
      clear hb2 L1
      go_wp2_with fail
      refine (HS.out _ L2.out).mono ?_
      rintro e w3 ⟨rfl, hb3⟩
      have L3 := Lib.hid (L2.out.step hb3)
      clear hb3 L2
      go_wp2_with fail
      refine (HLT.out _ L3.out).mono ?_
      rintro e w4 ⟨g4, c4, rfl, ho4, hb4⟩
      have L4 := Lib.hid (L3.out.step hb4)
      have K4 := Lib.hid ho4.lt
      clear hb4 L3 ho4
      go_wp2_with fail
      refine (H5.out _ g4 c4 L4.out K4.out).mono ?_
      rintro e w5 ⟨rfl, hb5⟩
      have L5 := Lib.hid (L4.out.step hb5)
      clear hb5 L4
      obtain ⟨t4, t4n⟩ := T4.out
      go_wp2_with fail
      go_ret
      exact ⟨rfl, L5.out.1.1⟩
    | true =>
      have hz : SzNt (lat ys 3) := ⟨by rw [lat_len]; exact SY.out.1, fun k hk => by
        rw [lat_len] at hk
        rw [lat_get hk]
        exact SY.out.2 k hk⟩
      have h5 := fun (W : World) (k : Nat) (a : Nat) (h : Lw w W g xs g' ys) (hk : Lu w W k (lat ys 3)) => implOffset_any (some ⟨g, 0, none⟩) (some ⟨k, 0, none⟩) c1 a xs (lat ys 3) sl W SX.out hz h.1.rd hk.rd
      have hlf := hlt
      simp only [lateR_t hlb] at hlf
      obtain ⟨x, hx⟩ := offE_is (offV xs (lat ys 3) sl)
      rw [hx] at h5
      have hcase := fun h0 hj0 => later_off hv hlb h0 hj0
      rw [hx] at hcase
      have HLT := Lib.hid hlf
      have H5 := Lib.hid h5
      have HC := Lib.hid hcase
      clear hlt hlf h5 hcase hx hv hlb hz
      generalize lat ys 3 = ls at *
      generalize (offV xs ls sl).isSome = B at *
      go_wp2_with fail
      refine (HI.out _ L1.out).mono ?_
      rintro e w2 ⟨rfl, hb2⟩
      have L2 := Lib.hid (L1.out.step hb2)
      clear hb2 L1
      go_wp2_with fail
      refine (HS.out _ L2.out).mono ?_
      rintro e w3 ⟨rfl, hb3⟩
      have L3 := Lib.hid (L2.out.step hb3)
      clear hb3 L2
      go_wp2_with fail
      refine (HLT.out _ L3.out).mono ?_
      rintro e w4 ⟨g4, c4, rfl, ho4, hb4⟩
      have L4 := Lib.hid (L3.out.step hb4)
      have K4 : Hid (Lu w w4 g4 ls) := Lib.hid ⟨L4.out.1.1, ho4.lt, ho4.at⟩
      clear hb4 L3 ho4
      go_wp2_with fail
      refine (H5.out _ g4 c4 L4.out K4.out).mono ?_
      rintro e w5 ⟨rfl, hb5⟩
      have L5 := Lib.hid (L4.out.step hb5)
      clear hb5 L4 K4
      by_cases h0 : xs.length = 0
      · have u1 := beq_t (show (xs.length : Int) = 0 by omega)
        have u1n : (xs.length == 0) = true := by simpa using h0
        obtain ⟨t4, t4n⟩ := T4.out
        clear h0
        go_wp2_with fail
        go_ret
        exact ⟨rfl, L5.out.1.1⟩
      · have u1 := beq_f (show (xs.length : Int) ≠ 0 by omega)
        have u1n : (xs.length == 0) = false := by simpa using h0
        by_cases hj0 : (j : Int) - 30 = -30
        · have u2 := beq_t hj0
          obtain ⟨t4, t4n⟩ := T4.out
          clear h0 hj0
          go_wp2_with fail
          go_ret
          exact ⟨rfl, L5.out.1.1⟩
        · have u2 := beq_f hj0
          rcases HC.out h0 hj0 with h | ⟨h, h30⟩
          · simp at h
            obtain ⟨rfl, rfl⟩ := h
            have e3 := beq_t (show (j : Int) - 30 + 3 = (j : Int) - 30 + 3 from rfl)
            clear h0 hj0
            go_wp2_with fail
            go_ret
            exact ⟨rfl, L5.out.1.1⟩
          · simp at h
            obtain ⟨rfl, rfl⟩ := h
            have e3 := dec_t h30
            clear h0 hj0 h30
            go_wp2_with fail
            go_ret
            exact ⟨rfl, L5.out.1.1⟩
end Go.Proofs.Ytebejpaghajhkaa
