/-
  Registers' draws: a legal text, a broken text (l91Legal, l91Broken). No condition.
-/
import Derived.Test.YtebejpaghajhkaaRg21
namespace Go.Proofs.Ytebejpaghajhkaa
open Go.RowKit
set_option linter.unusedVariables false
set_option linter.unusedSimpArgs false

set_option maxHeartbeats 1600000 in
theorem l91Legal_any (base R p : Nat) (w : World) (hp : p ≤ 90000) (hr : Rdr w base R p) :
    Calls Try.prog 97 #[.pointer (some ⟨R, 0, none⟩)] w (SomeTx w base R p 40 33) := by
  have HE := Lib.hid (fun (W : World) (q N : Nat) (hq : q ≤ 100000) (hN : N ≤ 31) (h : Rdr W base R q) => l91Events_any base R q N 0 false false W hq hN h)
  have H0 := Lib.hid hr
  clear hr
  go_enter Try.func97, Try.ntmps97
  go_wp2_with fail
  refine (pick_any base R p 30 _ (by omega) (by omega) H0.out).mono ?_
  rintro e w1 ⟨y, rfl, _, hr1, hg1⟩
  have R1 := Lib.hid hr1
  have G1 := Lib.hid hg1
  clear hr1 hg1 H0
  by_cases h0 : y = 0
  · subst h0
    go_wp2_with fail
    refine (HE.out _ (p + 1) 31 (by omega) (by omega) R1.out).mono ?_
    rintro e w2 ⟨S, q, rfl, hS, hq, hr2, hg2⟩
    have R2 := Lib.hid hr2
    have G2 := Lib.hid (grownBy_trans G1.out hg2)
    clear hr2 hg2 G1 R1
    go_wp2_with fail
    go_ret
    exact ⟨S, q, rfl, hS, by omega, R2.out, G2.out⟩
  · have t1 := beq_f (show (y : Int) ≠ 0 by omega)
    have t1n : (y == 0) = false := by simpa using h0
    clear h0
    go_wp2_with fail
    refine (pick_any base R (p + 1) 16 _ (by omega) (by omega) R1.out).mono ?_
    rintro e w2 ⟨x, rfl, hx, hr2, hg2⟩
    have hx16 : x < 16 := by have := hx (by omega); omega
    have R2 := Lib.hid hr2
    have G2 := Lib.hid (grownBy_trans G1.out hg2)
    clear hr2 hg2 G1 R1 hx
    go_wp2_with fail
    refine (HE.out _ (p + 1 + 1) x (by omega) (by omega) R2.out).mono ?_
    rintro e w3 ⟨S, q, rfl, hS, hq, hr3, hg3⟩
    have R3 := Lib.hid hr3
    have G3 := Lib.hid (grownBy_trans G2.out hg3)
    clear hr3 hg3 G2 R2
    go_wp2_with fail
    go_ret
    exact ⟨S, q, rfl, by omega, by omega, R3.out, G3.out⟩

theorem cut_size {s : ByteArray} {k : Nat} (h : k < s.size) : (s.extract 0 k ++ s.extract (k + 1) s.size).size = s.size - 1 := by
  rw [ByteArray.size_append, ByteArray.size_extract, ByteArray.size_extract]
  omega
set_option maxHeartbeats 1600000 in
theorem l91Broken_any (base R p : Nat) (w : World) (hp : p ≤ 80000) (hr : Rdr w base R p) :
    Calls Try.prog 87 #[.pointer (some ⟨R, 0, none⟩)] w (SomeTx w base R p 42 33) := by
  have H0 := Lib.hid hr
  clear hr
  go_enter Try.func87, Try.ntmps87
  go_wp2_with fail
  refine (l91Legal_any base R p _ (by omega) H0.out).mono ?_
  rintro e w1 ⟨S, q, rfl, hS, hq, hr1, hg1⟩
  have R1 := Lib.hid hr1
  have G1 := Lib.hid hg1
  clear hr1 hg1 H0
  by_cases h0 : S.size = 0
  · have t0 := dec_f (show ¬ (0 : Int) < (S.size : Int) by omega)
    have t0n := dec_f (show ¬ 0 < S.size by omega)
    clear h0
    go_wp2_with fail
    go_ret
    exact ⟨S, q, rfl, hS, by omega, R1.out, G1.out⟩
  · have t0 := dec_t (show (0 : Int) < (S.size : Int) by omega)
    have t0n := dec_t (show 0 < S.size by omega)
    go_wp2_with fail
    refine (pick_any base R q 3 _ (by omega) (by omega) R1.out).mono ?_
    rintro e w2 ⟨y, rfl, _, hr2, hg2⟩
    have R2 := Lib.hid hr2
    have G2 := Lib.hid (grownBy_trans G1.out hg2)
    clear hr2 hg2 G1 R1
    by_cases hy : 0 < y
    · have t1 := dec_t (show (0 : Int) < (y : Int) by omega)
      have t1n := dec_t hy
      clear hy
      go_wp2_with fail
      refine (pick_any base R (q + 1) S.size _ (by omega) (by omega) R2.out).mono ?_
      rintro e w3 ⟨k, rfl, hk, hr3, hg3⟩
      have hks : k < S.size := by have := hk (by omega); omega
      have R3 := Lib.hid hr3
      have G3 := Lib.hid (grownBy_trans G2.out hg3)
      clear hr3 hg3 G2 R2 hk
      have i1 : (k : Int) ≤ (S.size : Int) := by omega
      have i2 : (k : Int) + 1 ≤ (S.size : Int) := by omega
      have i3 : (0 : Int) ≤ (k : Int) := by omega
      have i4 : (0 : Int) ≤ (k : Int) + 1 := by omega
      have i5 : IntKind.i64.wrap ((k : Int) + 1) = (k : Int) + 1 := IntWalk.i64_in _ (by omega)
      have hcs := cut_size hks
      have e1 : (S.extract 0 k).size = k := by rw [ByteArray.size_extract]; omega
      have e2 : (S.extract (k + 1) S.size).size = S.size - (k + 1) := by rw [ByteArray.size_extract]; omega
      obtain ⟨U, hU⟩ : ∃ U, S.extract 0 k = U := ⟨_, rfl⟩
      obtain ⟨V, hV⟩ : ∃ V, S.extract (k + 1) S.size = V := ⟨_, rfl⟩
      rw [hU, hV] at hcs
      rw [hU] at e1
      rw [hV] at e2
      have hcc : U.size + V.size ≤ 9223372036854775807 := by omega
      have hcc2 : ¬ 9223372036854775807 < U.size + V.size := by omega
      have HCS := Lib.hid hcs
      clear hcs e1 e2
      go_wp2_with fail
      go_quiet (fail)
      go_wp2_with fail
      go_ret
      exact ⟨U ++ V, q + 1 + 1, rfl, by rw [HCS.out]; omega, by omega, R3.out.keep fun _ _ => rfl, grownBy_trans G3.out ⟨rfl, rfl, rfl, Nat.le_refl _, fun _ _ _ => rfl⟩⟩
    · have t1 := dec_f (show ¬ (0 : Int) < (y : Int) by omega)
      have t1n := dec_f hy
      clear hy
      go_wp2_with fail
      go_ret
      exact ⟨S, q + 1, rfl, hS, by omega, R2.out, G2.out⟩
end Go.Proofs.Ytebejpaghajhkaa
