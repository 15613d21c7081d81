/-
  Clocks differ by one offset: the law FnOffset. No condition.
-/
import Derived.Test.YtebejpaghajhkaaRg26
namespace Go.Proofs.Ytebejpaghajhkaa
open Go.RowKit
set_option linter.unusedVariables false
set_option linter.unusedSimpArgs false

theorem offset_next {xs ys : List NV} {sl : Int} {j : Nat} (h : offV xs ys sl = some j) (h2 : sl = 5 ∨ ∃ i, offV xs ys (sl + 1) = some i ∧ i ≤ j) :
    ∃ (x : Int) (b : Bool), offE (offV xs ys (sl + 1)) = .tuple #[.int .i64 x, .bool b] ∧ ((sl = 5 ∧ b = false ∧ x = 0) ∨ (sl ≠ 5 ∧ b = true ∧ x ≤ (j : Int) - 30)) := by
  by_cases e : sl = 5
  · obtain ⟨hx, hy, _⟩ := offV_some h
    rw [offV_yes hx hy, offJ_no (inB_false (.inr (by omega)))]
    exact ⟨0, false, rfl, .inl ⟨e, rfl, rfl⟩⟩
  · obtain ⟨i, hi, hij⟩ := h2.resolve_left e
    rw [hi]
    exact ⟨(i : Int) - 30, true, rfl, .inr ⟨e, rfl, by omega⟩⟩
set_option maxRecDepth 100000 in
set_option maxHeartbeats 3200000 in
theorem law_Offset (A : Option Addr) (c : Nat) (zs : List Int) (w : World) (hq : ArgBytes w A c zs) :
    Calls Try.prog 10 #[.slice A zs.length c] w fun e w' => e = .returned (.bool true) ∧ Below w.heap.size w w' := by
  obtain ⟨hr, hlc, hc⟩ := hq
  by_cases hbig : 1048576 < zs.length
  · have t0 := dec_t (show (1048576 : Int) < (zs.length : Int) by omega)
    go_enter Try.func10, Try.ntmps10
    go_wp2_with fail
    go_ret
    exact ⟨rfl, Below.refl _ _⟩
  have t0 := dec_f (show ¬ (1048576 : Int) < (zs.length : Int) by omega)
  have HD := Lib.hid (draw_roffset A c zs.length w hlc hc hr)
  clear hr
  go_enter Try.func10, Try.ntmps10
  go_wp2_with fail
  refine HD.out.mono ?_
  rintro e w1 ⟨xs, ys, g, c1, g', c2, sl, rfl, ho, ho', hsz, hsz', hn, hn', hsl, hb1⟩
  have L1 : Hid (Lw w w1 g xs g' ys) := Lib.hid ⟨⟨hb1, ho.lt, ho.at⟩, ⟨hb1, ho'.lt, ho'.at⟩⟩
  have SX := Lib.hid (szN_of hsz hn)
  have SY := Lib.hid (szN_of hsz' hn')
  clear ho ho' hsz hsz' hb1 HD
  have hi := fun (W : World) (h : Lw w W g xs g' ys) => implOffset_any (some ⟨g, 0, none⟩) (some ⟨g', 0, none⟩) c1 c2 xs ys sl W SX.out SY.out h.1.rd h.2.rd
  have hs := fun (W : World) (h : Lw w W g xs g' ys) => specOffset_any (some ⟨g, 0, none⟩) (some ⟨g', 0, none⟩) c1 c2 xs ys sl W SX.out SY.out h.1.rd h.2.rd
  cases hv : offV xs ys sl with
  | none =>
    rw [hv, offE_none] at hi hs
    have HI := Lib.hid hi
    have HS := Lib.hid hs
    clear hi hs hv
    go_wp2_with fail
    refine (HI.out _ L1.out).mono ?_
    rintro e w2 ⟨rfl, hb2⟩
    have L2 := Lib.hid (L1.out.step hb2)
    clear hb2 L1
    go_wp2_with fail
    refine (HS.out _ L2.out).mono ?_
    rintro e w3 ⟨rfl, hb3⟩
    have L3 := Lib.hid (L2.out.step hb3)
    clear hb3 L2
    go_wp2_with fail
    go_ret
    exact ⟨rfl, L3.out.1.1⟩
  | some j =>
    obtain ⟨hlen, hj, hs5, hall, ⟨i, h1, hi30⟩, hnx⟩ := offset_law hv
    obtain ⟨hvx, hvy, _⟩ := offV_some hv
    have hbx := fun k hk => (reg_bd hvx k hk).1
    have hby := fun k hk => (reg_bd hvy k hk).1
    obtain ⟨x, b, hx, hxb⟩ := offset_next hv hnx
    have h5 := fun (W : World) (h : Lw w W g xs g' ys) => implOffset_any (some ⟨g, 0, none⟩) (some ⟨g', 0, none⟩) c1 c2 xs ys (sl + 1) W SX.out SY.out h.1.rd h.2.rd
    have h6 := fun (W : World) (h : Lw w W g xs g' ys) => implOffset_any (some ⟨g, 0, none⟩) (some ⟨g, 0, none⟩) c1 c1 xs xs sl W SX.out SX.out h.1.rd h.1.rd
    rw [hv, offE_some] at hi hs
    rw [hx] at h5
    rw [h1, offE_some] at h6
    obtain ⟨o, ho⟩ : ∃ o : Int, (j : Int) - 30 = o := ⟨_, rfl⟩
    obtain ⟨y, hy⟩ : ∃ y : Int, (i : Int) - 30 = y := ⟨_, rfl⟩
    have hob : -30 ≤ o ∧ o ≤ 30 := by omega
    have hy0 : y ≤ 0 := by omega
    rw [ho] at hi hs hall hxb
    rw [hy] at h6
    have HI := Lib.hid hi
    have HS := Lib.hid hs
    have H5 := Lib.hid h5
    have H6 := Lib.hid h6
    have HALL := Lib.hid hall
    have HBX := Lib.hid hbx
    have HBY := Lib.hid hby
    have HXB := Lib.hid hxb
    have HLEN := Lib.hid hlen
    have u1 : IntKind.i64.wrap (sl + 1) = sl + 1 := IntWalk.i64_in _ (by omega)
    have e1 := bne_f (show o = o from rfl)
    have e2 := beq_t (show o = o from rfl)
    have e3 := dec_t hy0
    clear hlen hi hs h1 h5 h6 hv hall hbx hby hnx hx hvx hvy ho hy hxb
    go_wp2_with fail
    refine (HI.out _ L1.out).mono ?_
    rintro e w2 ⟨rfl, hb2⟩
    have L2 := Lib.hid (L1.out.step hb2)
    clear hb2 L1
    go_wp2_with fail
    refine (HS.out _ L2.out).mono ?_
    rintro e w3 ⟨rfl, hb3⟩
    have L3 := Lib.hid (L2.out.step hb3)
    clear hb3 L2
    go_wp2_with fail
    refine (H5.out _ L3.out).mono ?_
    rintro e w4 ⟨rfl, hb4⟩
    have L4 := Lib.hid (L3.out.step hb4)
    clear hb4 L3
    go_wp2_with fail
    refine (H6.out _ L4.out).mono ?_
    rintro e w5 ⟨rfl, hb5⟩
    have L5 := Lib.hid (L4.out.step hb5)
    clear hb5 L4
    go_wp2_with fail
    go_loopw [14, 15] (fun i d wr => ∃ k n : Nat, k ≤ xs.length ∧ i = .int .i64 k ∧ wr = w5.drewN n) (fun i _ _ => xs.length - (intOf i).toNat)
    case atStart => exact ⟨0, 0, Nat.zero_le _, rfl, rfl⟩
    case round =>
      obtain ⟨k, n, hk, rfl, rfl⟩ := hrel
      by_cases hlt : k < xs.length
      · have c0 := L5.out.1.cell hlt
        have c1' := L5.out.2.cell (show k < ys.length by have := HLEN.out; omega)
        have b0 := HBX.out k hlt
        have b1 := HBY.out k (by have := HLEN.out; omega)
        have hd := HALL.out k hlt
        generalize (xs.getD k Z2).1 = p at *
        generalize (ys.getD k Z2).1 = r at *
        have i1 : (k : Int) < (xs.length : Int) := by omega
        have i2 : (k : Int) < (ys.length : Int) := by have := HLEN.out; omega
        have v1 : IntKind.i64.wrap (r - p) = r - p := IntWalk.i64_in _ (by omega)
        have v2 : IntKind.i64.wrap (r - p - o) = r - p - o := IntWalk.i64_in _ (by omega)
        have v3 : IntKind.i64.wrap (0 - sl) = 0 - sl := IntWalk.i64_in _ (by omega)
        have v4 : IntKind.i64.wrap (-sl) = -sl := IntWalk.i64_in _ (by omega)
        have t1 := dec_f (show ¬ sl < r - p - o by omega)
        have t2 := dec_f (show ¬ r - p - o < 0 - sl by omega)
        have t3 := dec_f (show ¬ r - p - o < -sl by omega)
        clear hlt
        go_wp2_with fail
        go_quiet (fail)
        go_wp2_with fail
        go_roundw
        case rel => exact ⟨k + 1, _, by omega, by go_num, rfl⟩
        case measure => simp [intOf]; omega
      · obtain rfl : k = xs.length := by omega
        have t4 := beq_t (show (xs.length : Int) = (ys.length : Int) by have := HLEN.out; omega)
        have t4n : (xs.length == ys.length) = true := by simpa using HLEN.out
        have L6 := Lib.hid (L5.out.drewN n)
        clear hlt
        rcases HXB.out with ⟨rfl, rfl, rfl⟩ | ⟨h1, rfl, h2⟩
        · go_wp2_with fail
          go_ret
          exact ⟨rfl, L6.out.1.1⟩
        · have t5 := beq_f h1
          have t6 := dec_t h2
          clear h1 h2
          go_wp2_with fail
          go_ret
          exact ⟨rfl, L6.out.1.1⟩
end Go.Proofs.Ytebejpaghajhkaa
