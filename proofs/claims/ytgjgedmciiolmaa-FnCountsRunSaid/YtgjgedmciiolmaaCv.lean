/-
  CountsValid of the program and of the reference: what each returns for a row of ints. No condition but that the row has a length.
-/
import Derived.Test.YtgjgedmciiolmaaBase
namespace Go.Proofs.Ytgjgedmciiolmaa
open Go.RowKit
set_option linter.unusedVariables false

def okAx (z : Int) : Bool := inB 0 50 z
def cvB (zs : List Int) : Bool := inB 1 8 zs.length && zs.all okAx

theorem take_all_succ {p : Int → Bool} {zs : List Int} {k : Nat} (hk : k < zs.length) (h : (zs.take k).all p = true) (hp : p (zs.getD k 0) = true) : (zs.take (k + 1)).all p = true := by
  rw [List.take_succ_eq_append_getElem hk, List.all_append, h]
  simp [List.getD, hk] at hp
  simp [hp]
theorem all_false_at {p : Int → Bool} {zs : List Int} {k : Nat} (hk : k < zs.length) (hp : p (zs.getD k 0) = false) : zs.all p = false := by
  rw [List.all_eq_false]
  exact ⟨zs[k], List.getElem_mem hk, by simp [List.getD, hk] at hp; simp [hp]⟩

set_option maxHeartbeats 400000 in
theorem impl_cv (b off c : Nat) (zs : List Int) (w : World) (hn : zs.length ≤ 9223372036854775807) (hc : AtInts w b off zs) :
    Calls Try.prog 38 #[.slice (some ⟨b, off, none⟩) zs.length c] w fun e w' => e = .returned (.bool (cvB zs)) ∧ w = w' := by
  generalize hr : cvB zs = r
  have HR := Lib.hid hr
  have HC := Lib.hid hc
  clear hc hr
  by_cases h0 : zs.length = 0
  · have t0 := beq_t (show (zs.length : Int) = 0 by omega)
    go_enter Try.func38, Try.ntmps38
    go_wp2
    go_ret
    exact ⟨ret_bool (by rw [← HR.out]; unfold cvB; rw [inB_false (by omega)]; rfl), rfl⟩
  · have t0 := beq_f (show (zs.length : Int) ≠ 0 by omega)
    by_cases h8 : 8 < zs.length
    · have t1 := dec_t (show (8 : Int) < (zs.length : Int) by omega)
      go_enter Try.func38, Try.ntmps38
      go_wp2
      go_ret
      exact ⟨ret_bool (by rw [← HR.out]; unfold cvB; rw [inB_false (by omega)]; rfl), rfl⟩
    · have t1 := dec_f (show ¬ (8 : Int) < (zs.length : Int) by omega)
      have hr : r = zs.all okAx := by rw [← HR.out]; unfold cvB; rw [inB_true (by omega)]; rfl
      clear HR
      have HR := Lib.hid hr
      clear hr
      go_enter Try.func38, Try.ntmps38
      go_wp2
      go_loop [15] (fun i => ∃ k : Nat, k ≤ zs.length ∧ i = .int .i64 k ∧ (zs.take k).all okAx = true) (fun i => zs.length - (intOf i).toNat)
      case atStart => exact ⟨0, Nat.zero_le _, rfl, rfl⟩
      case round =>
        obtain ⟨k, hk, rfl, ha⟩ := hrel
        have HA := Lib.hid ha
        clear ha
        by_cases hlt : k < zs.length
        · have hcell := HC.out.at k hlt
          obtain ⟨x, hx⟩ : ∃ x, zs.getD k 0 = x := ⟨_, rfl⟩
          rw [hx] at hcell
          have HX := Lib.hid hx
          clear hx
          by_cases h1 : 0 ≤ x
          · have t2 := dec_f (show ¬ x < 0 by omega)
            by_cases h2 : x ≤ 50
            · have t3 := dec_f (show ¬ 50 < x by omega)
              go_wp2
              go_round
              case rel => exact ⟨k + 1, by omega, by go_num, take_all_succ hlt HA.out (by rw [HX.out]; exact inB_true ⟨h1, h2⟩)⟩
              case measure => simp [intOf]; omega
            · have t3 := dec_t (show 50 < x by omega)
              go_wp2
              go_ret
              exact ⟨ret_bool (by rw [HR.out]; exact (all_false_at hlt (by rw [HX.out]; exact inB_false (by omega))).symm), rfl⟩
          · have t2 := dec_t (show x < 0 by omega)
            go_wp2
            go_ret
            exact ⟨ret_bool (by rw [HR.out]; exact (all_false_at hlt (by rw [HX.out]; exact inB_false (by omega))).symm), rfl⟩
        · go_wp2
          go_ret
          exact ⟨ret_bool (by rw [HR.out, ← HA.out, List.take_of_length_le (by omega)]), rfl⟩

set_option maxHeartbeats 400000 in
theorem spec_cv (b off c : Nat) (zs : List Int) (w : World) (hn : zs.length ≤ 9223372036854775807) (hc : AtInts w b off zs) :
    Calls Try.prog 39 #[.slice (some ⟨b, off, none⟩) zs.length c] w fun e w' => e = .returned (.bool (cvB zs)) ∧ w = w' := by
  generalize hr : cvB zs = r
  have HR := Lib.hid hr
  have HC := Lib.hid hc
  clear hc hr
  go_enter Try.func39, Try.ntmps39
  go_wp2_with fail
  go_loop [3] (fun i => ∃ k : Nat, k ≤ zs.length ∧ i = .int .i64 k ∧ (zs.take k).all okAx = true) (fun i => zs.length - (intOf i).toNat)
  case atStart => exact ⟨0, Nat.zero_le _, rfl, rfl⟩
  case round =>
    obtain ⟨k, hk, rfl, ha⟩ := hrel
    have HA := Lib.hid ha
    clear ha
    by_cases hlt : k < zs.length
    · have hcell := HC.out.at k hlt
      obtain ⟨x, hx⟩ : ∃ x, zs.getD k 0 = x := ⟨_, rfl⟩
      rw [hx] at hcell
      have HX := Lib.hid hx
      clear hx
      by_cases h1 : inB 0 50 x = true
      · go_wp2_with (go_at_call 55; refine (l6In_any _ _ _ _).mono ?_; rintro e w' ⟨rfl, rfl⟩)
        go_round
        case rel => exact ⟨k + 1, by omega, by go_num, take_all_succ hlt HA.out (by rw [HX.out]; exact h1)⟩
        case measure => simp [intOf]; omega
      · have h2 : inB 0 50 x = false := by simpa using h1
        clear h1
        go_wp2_with (go_at_call 55; refine (l6In_any _ _ _ _).mono ?_; rintro e w' ⟨rfl, rfl⟩)
        go_ret
        exact ⟨ret_bool (by rw [← HR.out]; unfold cvB; rw [all_false_at hlt (by rw [HX.out]; exact h2)]; simp), rfl⟩
    · go_wp2_with (go_at_call 55; refine (l6In_any _ _ _ _).mono ?_; rintro e w' ⟨rfl, rfl⟩)
      go_ret
      refine ⟨ret_bool ?_, rfl⟩
      rw [← HR.out]; unfold cvB
      have := HA.out
      rw [List.take_of_length_le (by omega)] at this
      rw [this]; simp

end Go.Proofs.Ytgjgedmciiolmaa
