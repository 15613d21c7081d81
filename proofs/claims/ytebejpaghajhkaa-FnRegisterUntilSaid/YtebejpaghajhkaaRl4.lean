/-
  Parts of a register are joined: the law FnRegisterUntil. No condition.
-/
import Derived.Test.YtebejpaghajhkaaRg24
import Derived.Test.YtebejpaghajhkaaRg32
namespace Go.Proofs.Ytebejpaghajhkaa
open Go.RowKit
set_option linter.unusedVariables false
set_option linter.unusedSimpArgs false

/-- The law's list. -/
def Lu (w W : World) (g : Nat) (ns : List NV) : Prop := Below w.heap.size w W ∧ g < W.heap.size ∧ AtNt W g 0 ns
section
variable {w W W' : World} {g off : Nat} {ns : List NV}
theorem Lu.step (h : Lu w W g ns) (k : Below W.heap.size W W') : Lu w W' g ns := ⟨below_to h.1 k h.1.size, Nat.lt_of_lt_of_le h.2.1 k.size, h.2.2.below k h.2.1⟩
theorem Lu.drewN (h : Lu w W g ns) (n : Nat) : Lu w (W.drewN n) g ns := h.step (Qt.below ⟨n, rfl⟩ _)
theorem Lu.rd (h : Lu w W g ns) : RdNt W (some ⟨g, 0, none⟩) ns := fun _ => ⟨g, 0, rfl, h.2.1, h.2.2⟩
theorem AtNt.drop {n : Nat} (h : AtNt W g off ns) : AtNt W g (off + n * 2) (ns.drop n) := fun k hk => by
  simp at hk
  have hg : (ns.drop n).getD k Z2 = ns.getD (n + k) Z2 := by simp [List.getD]
  have := h (n + k) (by omega)
  rw [hg, show off + n * 2 + k * 2 = off + (n + k) * 2 by omega]
  exact this
theorem szN_of (h : BdN ns) (hn : ns.length ≤ 33) : SzNt ns := ⟨by omega, fun k hk => by have := (h k hk).2; omega⟩
end
theorem cap2N {w : World} {base g c : Nat} {ns : List NV} (h : OwnN w base g c ns) : ns.length ≤ c ∧ c ≤ 9223372036854775807 := by
  obtain ⟨_, cur, _, _, h1, h2, _⟩ := OwnV.parts h
  exact ⟨h1, h2⟩
set_option maxRecDepth 100000 in
set_option maxHeartbeats 3200000 in
theorem law_RegisterUntil (A : Option Addr) (c : Nat) (ys : List Int) (w : World) (hq : ArgBytes w A c ys) :
    Calls Try.prog 7 #[.slice A ys.length c] w fun e w' => e = .returned (.bool true) ∧ Below w.heap.size w w' := by
  obtain ⟨hr, hlc, hc⟩ := hq
  by_cases hbig : 1048576 < ys.length
  · have t0 := dec_t (show (1048576 : Int) < (ys.length : Int) by omega)
    go_enter Try.func7, Try.ntmps7
    go_wp2_with fail
    go_ret
    exact ⟨rfl, Below.refl _ _⟩
  have t0 := dec_f (show ¬ (1048576 : Int) < (ys.length : Int) by omega)
  have HD := Lib.hid (draw_runtil A c ys.length w hlc hc hr)
  clear hr
  go_enter Try.func7, Try.ntmps7
  go_wp2_with fail
  refine HD.out.mono ?_
  rintro e w1 ⟨ns, g, c1, x, rfl, ho, hbd, hn, hx, hb1⟩
  obtain ⟨hcl, hcm⟩ := cap2N ho
  have L1 : Hid (Lu w w1 g ns) := Lib.hid ⟨hb1, ho.lt, ho.at⟩
  have SZ := Lib.hid (szN_of hbd hn)
  clear ho hbd hb1 HD
  have hiu := fun (W : World) (h : Lu w W g ns) => implUntil_any (some ⟨g, 0, none⟩) c1 ns x W SZ.out h.rd
  have hsu := fun (W : World) (h : Lu w W g ns) => specUntil_any g 0 c1 ns x W SZ.out hcl hcm h.2.1 h.2.2
  cases hv : regB ns with
  | false =>
    rw [hv, if_neg (by simp)] at hiu hsu
    have HIU := Lib.hid hiu
    have HSU := Lib.hid hsu
    clear hiu hsu hv
    go_wp2_with fail
    refine (HIU.out _ L1.out).mono ?_
    rintro e w2 ⟨g2, c2, rfl, _, hb2⟩
    have L2 := Lib.hid (L1.out.step hb2)
    clear hb2 L1
    go_wp2_with fail
    refine (HSU.out _ L2.out).mono ?_
    rintro e w3 ⟨g3, c3, rfl, _, hb3⟩
    have L3 := Lib.hid (L2.out.step hb3)
    clear hb3 L2
    have HSN := Lib.hid (fun A A' W => sameNotes_nil c2 c3 A A' W)
    go_wp2_with (go_at_call 18; go_must (go_fit (HSN.out _ _ _); rintro e w4 ⟨rfl, rfl⟩))
    go_ret
    exact ⟨rfl, L3.out.1⟩
  | true =>
    rw [hv, if_pos rfl] at hiu hsu
    obtain ⟨h1, h2, h3, h4, h5⟩ := until_law (m := x) hv
    have e1 : (ns.take (unN ns x)).length = unN ns x := by rw [List.length_take]; exact Nat.min_eq_left h1
    have e2 := List.take_append_drop (unN ns x) ns
    have e3 : (ns.drop (unN ns x)).length = ns.length - unN ns x := by simp
    have hat : ∀ W, AtNt W g 0 ns → AtNt W g (0 + unN ns x * 2) (ns.drop (unN ns x)) := fun W h => h.drop
    have hz1 : SzNt (ns.take (unN ns x)) := ⟨by rw [e1]; omega, fun k hk => by rw [getD_take (by omega)]; exact SZ.out.2 k (by omega)⟩
    have hz2 : SzNt (ns.drop (unN ns x)) := ⟨by rw [e3]; omega, fun k hk => by
      have hg : (ns.drop (unN ns x)).getD k Z2 = ns.getD (unN ns x + k) Z2 := by simp [List.getD]
      rw [hg]; exact SZ.out.2 _ (by omega)⟩
    have e4 : (ns.take (unN ns x)).take (unN ns x) = ns.take (unN ns x) := by rw [List.take_take, Nat.min_self]
    have hj := fun (W : World) (A2 : Option Addr) (g2 c2 : Nat) (k : Lu w W g2 (ns.take (unN ns x))) (k2 : RdNt W A2 (ns.drop (unN ns x))) => implJoin_any (some ⟨g2, 0, none⟩) A2 c2 (c1 - unN ns x) _ _ W hz1 hz2 k.rd k2
    rw [h3, if_pos rfl, e2] at hj
    have hu2 := fun (W : World) (g2 c2 : Nat) (k : Lu w W g2 (ns.take (unN ns x))) => implUntil_any (some ⟨g2, 0, none⟩) c2 _ x W hz1 k.rd
    rw [h2, if_pos rfl, h4, e4] at hu2
    obtain ⟨A2, hA2⟩ : ∃ A2, (if c1 = unN ns x then some (⟨g, 0, none⟩ : Addr) else some ⟨g, unN ns x * 2, none⟩) = A2 := ⟨_, rfl⟩
    have hrd : ∀ W, Lu w W g ns → RdNt W A2 (ns.drop (unN ns x)) := fun W h => by
      rw [← hA2]
      split
      · intro hp; rw [e3] at hp; omega
      · exact fun _ => ⟨g, unN ns x * 2, rfl, h.2.1, by have := hat W h.2.2; rwa [Nat.zero_add] at this⟩
    rw [e3] at hj
    clear h2 h3 h4 hat hz1 hz2 e2 e4 hv
    generalize ns.take (unN ns x) = ms at *
    generalize ns.drop (unN ns x) = tl at *
    generalize unN ns x = n at *
    subst e1
    have HIU := Lib.hid hiu
    have HSU := Lib.hid hsu
    have HJ := Lib.hid hj
    have HU2 := Lib.hid hu2
    have HRD := Lib.hid hrd
    have i1 : (ms.length : Int) ≤ (ns.length : Int) := by omega
    have i2 : (ns.length : Int) ≤ (c1 : Int) := by omega
    clear hiu hsu hj hu2 hrd e3
    go_wp2_with fail
    refine (HIU.out _ L1.out).mono ?_
    rintro e w2 ⟨g2, c2, rfl, ho2, hb2⟩
    have L2 := Lib.hid (L1.out.step hb2)
    have O2 : Hid (Lu w w2 g2 ms) := Lib.hid ⟨L2.out.1, ho2.lt, ho2.at⟩
    clear hb2 ho2 L1
    go_wp2_with fail
    refine (HSU.out _ L2.out).mono ?_
    rintro e w3 ⟨g3, c3, rfl, ho3, hb3⟩
    have L3 := Lib.hid (L2.out.step hb3)
    have O3 := Lib.hid (O2.out.step hb3)
    have P3 : Hid (Lu w w3 g3 ms) := Lib.hid ⟨L3.out.1, ho3.lt, ho3.at⟩
    clear hb3 ho3 L2 O2
    go_wp2_with fail
    refine (sameNotes_same g2 0 c2 g3 0 c3 ms _ (by omega) O3.out.2.2 P3.out.2.2).mono ?_
    rintro e w4 ⟨rfl, n4, rfl⟩
    have L4 := Lib.hid (L3.out.drewN n4)
    have O4 := Lib.hid (O3.out.drewN n4)
    clear L3 O3 P3
    generalize w3.drewN n4 = w4 at *
    go_wp2_with fail
    refine (HJ.out _ A2 g2 c2 O4.out (HRD.out _ L4.out)).mono ?_
    rintro e w5 ⟨g5, c5, rfl, ho5, hb5⟩
    have L5 := Lib.hid (L4.out.step hb5)
    have O5 := Lib.hid (O4.out.step hb5)
    have P5 : Hid (Lu w w5 g5 ns) := Lib.hid ⟨L5.out.1, ho5.lt, ho5.at⟩
    clear hb5 ho5 L4 O4
    go_wp2_with fail
    refine (HU2.out _ g2 c2 O5.out).mono ?_
    rintro e w6 ⟨g6, c6, rfl, ho6, hb6⟩
    have L6 := Lib.hid (L5.out.step hb6)
    have O6 := Lib.hid (O5.out.step hb6)
    have P6 := Lib.hid (P5.out.step hb6)
    have Q6 : Hid (Lu w w6 g6 ms) := Lib.hid ⟨L6.out.1, ho6.lt, ho6.at⟩
    clear hb6 ho6 L5 O5 P5
    go_wp2_with fail
    refine (sameNotes_same g5 0 c5 g 0 c1 ns _ (by omega) P6.out.2.2 L6.out.2.2).mono ?_
    rintro e w7 ⟨rfl, n7, rfl⟩
    have L7 := Lib.hid (L6.out.drewN n7)
    have O7 := Lib.hid (O6.out.drewN n7)
    have Q7 := Lib.hid (Q6.out.drewN n7)
    clear L6 O6 P6 Q6
    generalize w6.drewN n7 = w7 at *
    go_wp2_with fail
    refine (sameNotes_same g6 0 c6 g2 0 c2 ms _ (by omega) Q7.out.2.2 O7.out.2.2).mono ?_
    rintro e w8 ⟨rfl, n8, rfl⟩
    have L8 := Lib.hid (L7.out.drewN n8)
    clear L7 O7 Q7
    generalize w7.drewN n8 = w8 at *
    by_cases hl : ms.length = ns.length
    · have t1 := beq_t (show (ms.length : Int) = (ns.length : Int) by omega)
      have t1n : (ms.length == ns.length) = true := by simpa using hl
      clear hl h5
      go_wp2_with fail
      go_ret
      exact ⟨rfl, L8.out.1⟩
    · have t1 := beq_f (show (ms.length : Int) ≠ (ns.length : Int) by omega)
      have t1n : (ms.length == ns.length) = false := by simpa using hl
      have c0 := (L8.out.2.2 ms.length (by omega)).1
      rw [Nat.zero_add] at c0
      have h6 : x < (ns.getD ms.length Z2).1 := h5.resolve_left hl
      obtain ⟨v, hv⟩ : ∃ v, (ns.getD ms.length Z2).1 = v := ⟨_, rfl⟩
      rw [hv] at c0 h6
      have t2 := dec_t h6
      have i3 : (ms.length : Int) < (ns.length : Int) := by omega
      clear hl h5 hv
      go_wp2_with fail
      go_ret
      exact ⟨rfl, L8.out.1⟩
end Go.Proofs.Ytebejpaghajhkaa
