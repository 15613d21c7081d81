/-
  Agreeing is mutual: the law FnSlack. No condition.
-/
import Derived.Test.YtebejpaghajhkaaRg26
namespace Go.Proofs.Ytebejpaghajhkaa
open Go.RowKit
set_option linter.unusedVariables false
set_option linter.unusedSimpArgs false

set_option maxRecDepth 100000 in
set_option maxHeartbeats 3200000 in
theorem law_Slack (A : Option Addr) (c : Nat) (zs : List Int) (w : World) (hq : ArgBytes w A c zs) :
    Calls Try.prog 12 #[.slice A zs.length c] w fun e w' => e = .returned (.bool true) ∧ Below w.heap.size w w' := by
  obtain ⟨hr, hlc, hc⟩ := hq
  by_cases hbig : 1048576 < zs.length
  · have t0 := dec_t (show (1048576 : Int) < (zs.length : Int) by omega)
    go_enter Try.func12, Try.ntmps12
    go_wp2_with fail
    go_ret
    exact ⟨rfl, Below.refl _ _⟩
  have t0 := dec_f (show ¬ (1048576 : Int) < (zs.length : Int) by omega)
  have HD := Lib.hid (draw_rslack A c zs.length w hlc hc hr)
  clear hr
  go_enter Try.func12, Try.ntmps12
  go_wp2_with fail
  refine HD.out.mono ?_
  rintro e w1 ⟨xs, ys, g, c1, g', c2, rfl, ho, ho', hsz, hsz', hn, hn', hb1⟩
  have L1 : Hid (Lw w w1 g xs g' ys) := Lib.hid ⟨⟨hb1, ho.lt, ho.at⟩, ⟨hb1, ho'.lt, ho'.at⟩⟩
  have SX := Lib.hid (szN_of hsz hn)
  have SY := Lib.hid (szN_of hsz' hn')
  clear ho ho' hsz hsz' hb1 HD
  have hi := fun (W : World) (h : Lw w W g xs g' ys) => implSlack_any (some ⟨g, 0, none⟩) (some ⟨g', 0, none⟩) c1 c2 xs ys W SX.out SY.out h.1.rd h.2.rd
  have hs := fun (W : World) (h : Lw w W g xs g' ys) => specSlack_any (some ⟨g, 0, none⟩) (some ⟨g', 0, none⟩) c1 c2 xs ys W SX.out SY.out h.1.rd h.2.rd
  cases hv : slV xs ys with
  | none =>
    rw [hv, slE_none] at hi hs
    have HI := Lib.hid hi
    have HS := Lib.hid hs
    clear hi hs hv
    go_wp2_with fail
    refine (HI.out _ L1.out).mono ?_
    rintro e w2 ⟨rfl, hb2⟩
    have L2 := Lib.hid (L1.out.step hb2)
    clear hb2 L1
    go_wp2_with fail
    refine (HS.out _ L2.out).mono ?_
    rintro e w3 ⟨rfl, hb3⟩
    have L3 := Lib.hid (L2.out.step hb3)
    clear hb3 L2
    go_wp2_with fail
    go_ret
    exact ⟨rfl, L3.out.1.1⟩
  | some k =>
    obtain ⟨hk, h1, h2, ⟨j, hj, h3⟩, h4⟩ := slack_law hv
    have h5 := fun (W : World) (h : Lw w W g xs g' ys) => implSlack_any (some ⟨g', 0, none⟩) (some ⟨g, 0, none⟩) c2 c1 ys xs W SY.out SX.out h.2.rd h.1.rd
    have h6 := fun (W : World) (h : Lw w W g xs g' ys) => implSlack_any (some ⟨g, 0, none⟩) (some ⟨g, 0, none⟩) c1 c1 xs xs W SX.out SX.out h.1.rd h.1.rd
    have h7 := fun (W : World) (h : Lw w W g xs g' ys) => implOffset_any (some ⟨g, 0, none⟩) (some ⟨g', 0, none⟩) c1 c2 xs ys (k : Int) W SX.out SY.out h.1.rd h.2.rd
    have h8 := fun (W : World) (h : Lw w W g xs g' ys) => implOffset_any (some ⟨g, 0, none⟩) (some ⟨g', 0, none⟩) c1 c2 xs ys ((k : Int) - 1) W SX.out SY.out h.1.rd h.2.rd
    rw [hv, slE_some] at hi hs
    rw [h1, slE_some] at h5
    rw [h2, slE_some] at h6
    rw [h3, offE_some] at h7
    rw [h4, offE_none] at h8
    have HI := Lib.hid hi
    have HS := Lib.hid hs
    have H5 := Lib.hid h5
    have H6 := Lib.hid h6
    have H7 := Lib.hid h7
    have H8 := Lib.hid h8
    have u1 : IntKind.i64.wrap ((k : Int) - 1) = (k : Int) - 1 := IntWalk.i64_in _ (by omega)
    have e1 := bne_f (show (k : Int) = (k : Int) from rfl)
    have e2 := beq_t (show (k : Int) = (k : Int) from rfl)
    clear hi hs h1 h2 h3 h4 h5 h6 h7 h8 hv
    go_wp2_with fail
    refine (HI.out _ L1.out).mono ?_
    rintro e w2 ⟨rfl, hb2⟩
    have L2 := Lib.hid (L1.out.step hb2)
    clear hb2 L1
    go_wp2_with fail
    refine (HS.out _ L2.out).mono ?_
    rintro e w3 ⟨rfl, hb3⟩
    have L3 := Lib.hid (L2.out.step hb3)
    clear hb3 L2
    go_wp2_with fail
    refine (H5.out _ L3.out).mono ?_
    rintro e w4 ⟨rfl, hb4⟩
    have L4 := Lib.hid (L3.out.step hb4)
    clear hb4 L3
    go_wp2_with fail
    refine (H6.out _ L4.out).mono ?_
    rintro e w5 ⟨rfl, hb5⟩
    have L5 := Lib.hid (L4.out.step hb5)
    clear hb5 L4
    go_wp2_with fail
    refine (H7.out _ L5.out).mono ?_
    rintro e w6 ⟨rfl, hb6⟩
    have L6 := Lib.hid (L5.out.step hb6)
    clear hb6 L5
    go_wp2_with fail
    refine (H8.out _ L6.out).mono ?_
    rintro e w7 ⟨rfl, hb7⟩
    have L7 := Lib.hid (L6.out.step hb7)
    clear hb7 L6
    go_wp2_with fail
    go_ret
    exact ⟨rfl, L7.out.1.1⟩
end Go.Proofs.Ytebejpaghajhkaa
