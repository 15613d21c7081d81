/-
  Later notes can be earlier again: the law FnLateBack. No condition.
-/
import Derived.Test.YtebejpaghajhkaaRg26
import Derived.Test.YtebejpaghajhkaaRg34
namespace Go.Proofs.Ytebejpaghajhkaa
open Go.RowKit
set_option linter.unusedVariables false
set_option linter.unusedSimpArgs false

theorem back_any {ns : List NV} {x : Int} (hx : -9223372036854775808 ≤ x ∧ x ≤ 9223372036854775807) (h : lateB ns x = true) :
    lateB (lat ns x) (IntKind.i64.wrap (0 - x)) = true ∧ lat (lat ns x) (IntKind.i64.wrap (0 - x)) = ns := by
  by_cases h0 : ns.length = 0
  · obtain rfl := List.eq_nil_of_length_eq_zero h0
    exact ⟨lateB_nil, rfl⟩
  · have hb := lateB_iff.1 h
    have hr : -2000 ≤ x ∧ x ≤ 2000 := by
      rcases hb.2 with h1 | h1
      · subst h1; exact absurd rfl h0
      · exact h1.1
    have e : IntKind.i64.wrap (0 - x) = 0 - x := IntWalk.i64_in _ (by omega)
    rw [e]
    exact ⟨(back_law h).1, (back_law h).2.1⟩
theorem back_off {ns : List NV} {x : Int} (h : lateB ns x = true) : ∃ (z : Int) (B : Bool), offE (offV ns (lat ns x) 0) = .tuple #[.int .i64 z, .bool B] ∧ (ns.length ≠ 0 → (-30 ≤ x ∧ x ≤ 30 → B = true ∧ z = x) ∧ (¬ (-30 ≤ x ∧ x ≤ 30) → B = false)) := by
  obtain ⟨z, hz⟩ := offE_is (offV ns (lat ns x) 0)
  refine ⟨z, _, hz, fun h0 => ?_⟩
  have h4 := (back_law h).2.2.2 (by omega)
  rw [h4] at hz
  constructor
  · intro hx
    rw [h4, if_pos hx]
    rw [if_pos hx, offE_some] at hz
    simp at hz
    exact ⟨rfl, by omega⟩
  · intro hx
    rw [h4, if_neg hx]
    rfl
set_option maxRecDepth 100000 in
set_option maxHeartbeats 3200000 in
theorem law_LateBack (A : Option Addr) (c : Nat) (zs : List Int) (w : World) (hq : ArgBytes w A c zs) :
    Calls Try.prog 11 #[.slice A zs.length c] w fun e w' => e = .returned (.bool true) ∧ Below w.heap.size w w' := by
  obtain ⟨hr, hlc, hc⟩ := hq
  by_cases hbig : 1048576 < zs.length
  · have t0 := dec_t (show (1048576 : Int) < (zs.length : Int) by omega)
    go_enter Try.func11, Try.ntmps11
    go_wp2_with fail
    go_ret
    exact ⟨rfl, Below.refl _ _⟩
  have t0 := dec_f (show ¬ (1048576 : Int) < (zs.length : Int) by omega)
  have HD := Lib.hid (draw_rlate A c zs.length w hlc hc hr)
  clear hr
  go_enter Try.func11, Try.ntmps11
  go_wp2_with fail
  refine HD.out.mono ?_
  rintro e w1 ⟨ns, g, c1, x, rfl, ho, hbd, hn, hx, hb1⟩
  have L1 : Hid (Lu w w1 g ns) := Lib.hid ⟨hb1, ho.lt, ho.at⟩
  have SZ := Lib.hid (szN_of (Sz2.of hbd) hn)
  clear ho hbd hb1 HD
  have hiu := fun (W : World) (h : Lu w W g ns) => implLate_any (some ⟨g, 0, none⟩) c1 ns x W SZ.out h.rd
  have hsu := fun (W : World) (h : Lu w W g ns) => specLate_any g 0 c1 ns x W SZ.out h.2.1 h.2.2
  cases hv : lateB ns x with
  | false =>
    simp only [lateR_f hv] at hiu hsu
    have HIU := Lib.hid hiu
    have HSU := Lib.hid hsu
    clear hiu hsu hv
    go_wp2_with fail
    refine (HIU.out _ L1.out).mono ?_
    rintro e w2 ⟨g2, c2, rfl, _, hb2⟩
    have L2 := Lib.hid (L1.out.step hb2)
    clear hb2 L1
    go_wp2_with fail
    refine (HSU.out _ L2.out).mono ?_
    rintro e w3 ⟨g3, c3, rfl, _, hb3⟩
    have L3 := Lib.hid (L2.out.step hb3)
    clear hb3 L2
    have HSN := Lib.hid (fun A A' W => sameNotes_nil c2 c3 A A' W)
    go_wp2_with (go_at_call 18; go_must (go_fit (HSN.out _ _ _); rintro e w4 ⟨rfl, rfl⟩))
    go_ret
    exact ⟨rfl, L3.out.1⟩
  | true =>
    simp only [lateR_t hv] at hiu hsu
    obtain ⟨h1, h2⟩ := back_any hx hv
    obtain ⟨z, B, h3, h4⟩ := back_off hv
    have hv1 := (lateB_iff.1 hv).1
    have hv2 := lateB_reg hv
    have htx := lat_txt ns x
    have hz : SzNt (lat ns x) := ⟨by rw [lat_len]; exact SZ.out.1, fun k hk => by
      rw [lat_len] at hk
      rw [lat_get hk]
      exact SZ.out.2 k hk⟩
    have h5 := fun (W : World) (k a : Nat) (h : Lu w W k (lat ns x)) => implLate_any (some ⟨k, 0, none⟩) a (lat ns x) (IntKind.i64.wrap (0 - x)) W hz h.rd
    simp only [lateR_t h1, h2] at h5
    have h6 := fun (W : World) (k a : Nat) (h : Lu w W g ns) (h' : Lu w W k (lat ns x)) => implOffset_any (some ⟨g, 0, none⟩) (some ⟨k, 0, none⟩) c1 a ns (lat ns x) 0 W SZ.out hz h.rd h'.rd
    rw [h3] at h6
    have h7 := fun (W : World) (k a : Nat) (h : Lu w W k (lat ns x)) => implText_any (some ⟨k, 0, none⟩) a (lat ns x) W hz h.rd
    have h8 := fun (W : World) (h : Lu w W g ns) => implText_any (some ⟨g, 0, none⟩) c1 ns W SZ.out h.rd
    rw [hv2, if_pos rfl, htx] at h7
    rw [hv1, if_pos rfl] at h8
    have hml := lat_len ns x
    have HN33 : Hid ((lat ns x).length ≤ 33) := Lib.hid (by rw [hml]; exact hn)
    obtain ⟨y, hy⟩ : ∃ y, IntKind.i64.wrap (0 - x) = y := ⟨_, rfl⟩
    have hy2 : IntKind.i64.wrap (-x) = y := by rw [← hy, Int.zero_sub]
    rw [hy] at h5
    generalize txt ns = T at *
    have te : (T.toList == T.toList) = true := beq_self_eq_true _
    have HIU := Lib.hid hiu
    have HSU := Lib.hid hsu
    have H4 := Lib.hid h4
    have H5 := Lib.hid h5
    have H6 := Lib.hid h6
    have H7 := Lib.hid h7
    have H8 := Lib.hid h8
    clear hiu hsu h1 h2 h3 h4 h5 h6 h7 h8 hv hv1 hv2 htx hz hml
    generalize lat ns x = ms at *
    go_wp2_with fail
    refine (HIU.out _ L1.out).mono ?_
    rintro e w2 ⟨g2, c2, rfl, ho2, hb2⟩
    have L2 := Lib.hid (L1.out.step hb2)
    have O2 : Hid (Lu w w2 g2 ms) := Lib.hid ⟨L2.out.1, ho2.lt, ho2.at⟩
    clear hb2 ho2 L1
    go_wp2_with fail
    refine (HSU.out _ L2.out).mono ?_
    rintro e w3 ⟨g3, c3, rfl, ho3, hb3⟩
    have L3 := Lib.hid (L2.out.step hb3)
    have O3 := Lib.hid (O2.out.step hb3)
    have P3 : Hid (Lu w w3 g3 ms) := Lib.hid ⟨L3.out.1, ho3.lt, ho3.at⟩
    clear hb3 ho3 L2 O2
    go_wp2_with fail
    refine (sameNotes_same g2 0 c2 g3 0 c3 ms _ (by have := HN33.out; omega) O3.out.2.2 P3.out.2.2).mono ?_
    rintro e w4 ⟨rfl, n4, rfl⟩
    have L4 := Lib.hid (L3.out.drewN n4)
    have O4 := Lib.hid (O3.out.drewN n4)
    clear L3 O3 P3
    generalize w3.drewN n4 = w4 at *
    go_wp2_with fail
    refine (H5.out _ g2 c2 O4.out).mono ?_
    rintro e w5 ⟨g5, c5, rfl, ho5, hb5⟩
    have L5 := Lib.hid (L4.out.step hb5)
    have O5 := Lib.hid (O4.out.step hb5)
    have P5 : Hid (Lu w w5 g5 ns) := Lib.hid ⟨L5.out.1, ho5.lt, ho5.at⟩
    clear hb5 ho5 L4 O4
    go_wp2_with fail
    refine (H6.out _ g2 c2 L5.out O5.out).mono ?_
    rintro e w6 ⟨rfl, hb6⟩
    have L6 := Lib.hid (L5.out.step hb6)
    have O6 := Lib.hid (O5.out.step hb6)
    have P6 := Lib.hid (P5.out.step hb6)
    clear hb6 L5 O5 P5
    obtain ⟨S, hS⟩ : ∃ S, (decide (-30 ≤ x) && decide (x ≤ 30)) = S := ⟨_, rfl⟩
    have finish : ns.length ≠ 0 → B = S ∧ (B = true → z = x) := by
      intro h0
      by_cases hs : -30 ≤ x ∧ x ≤ 30
      · obtain ⟨q1, q2⟩ := (H4.out h0).1 hs
        refine ⟨?_, fun _ => q2⟩
        rw [q1, ← hS, dec_t hs.1, dec_t hs.2]; rfl
      · have q := (H4.out h0).2 hs
        refine ⟨?_, fun h => by rw [q] at h; cases h⟩
        rw [q, ← hS]
        by_cases h1 : -30 ≤ x
        · rw [dec_f (show ¬ x ≤ 30 by omega), Bool.and_false]
        · rw [dec_f h1]; rfl
    have FIN := Lib.hid finish
    have HS := Lib.hid hS
    clear finish hS
    go_upto_region 10 with fail
    go_cut [13] (fun a13 wx => a13 = .bool S ∧ wx = w6)
    case first =>
      have hS := HS.out
      by_cases s1 : -30 ≤ x
      · have u1 := dec_t s1
        rw [u1, Bool.true_and] at hS
        by_cases s2 : x ≤ 30
        · have u2 := dec_t s2
          rw [u2] at hS
          subst hS
          clear s1 s2
          go_wp2_with fail
          go_meet
          exact ⟨rfl, rfl⟩
        · have u2 := dec_f s2
          rw [u2] at hS
          subst hS
          clear s1 s2
          go_wp2_with fail
          go_meet
          exact ⟨rfl, rfl⟩
      · have u1 := dec_f s1
        rw [u1, Bool.false_and] at hS
        subst hS
        clear s1
        go_wp2_with fail
        go_meet
        exact ⟨rfl, rfl⟩
    obtain ⟨rfl, rfl⟩ := hcut
    go_wp2_with fail
    refine (sameNotes_same g5 0 c5 g 0 c1 ns _ (by omega) P6.out.2.2 L6.out.2.2).mono ?_
    rintro e w7 ⟨rfl, n7, rfl⟩
    have L7 := Lib.hid (L6.out.drewN n7)
    have O7 := Lib.hid (O6.out.drewN n7)
    clear L6 O6 P6
    generalize wc.drewN n7 = w7 at *
    go_wp2_with fail
    refine (H7.out _ g2 c2 O7.out).mono ?_
    rintro e w8 ⟨rfl, hb8⟩
    have L8 := Lib.hid (L7.out.step hb8)
    clear hb8 L7 O7
    go_wp2_with fail
    refine (H8.out _ L8.out).mono ?_
    rintro e w9 ⟨rfl, hb9⟩
    have L9 := Lib.hid (L8.out.step hb9)
    clear hb9 L8
    by_cases h0 : ns.length = 0
    · have u1 := beq_t (show (ns.length : Int) = 0 by omega)
      have u1n : (ns.length == 0) = true := by simpa using h0
      clear h0
      go_wp2_with fail
      go_ret
      exact ⟨rfl, L9.out.1⟩
    · have u1 := beq_f (show (ns.length : Int) ≠ 0 by omega)
      have u1n : (ns.length == 0) = false := by simpa using h0
      obtain ⟨rfl, hzx⟩ := FIN.out h0
      clear h0
      cases B with
      | true =>
        obtain rfl := hzx rfl
        have u2 := beq_t (show z = z from rfl)
        go_wp2_with fail
        go_ret
        exact ⟨rfl, L9.out.1⟩
      | false =>
        clear hzx
        go_wp2_with fail
        go_ret
        exact ⟨rfl, L9.out.1⟩
end Go.Proofs.Ytebejpaghajhkaa
