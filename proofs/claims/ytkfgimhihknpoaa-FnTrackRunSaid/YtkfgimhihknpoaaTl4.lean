/-
  The law FnTrackStep; the drawing of an index. No condition.
-/
import Derived.Test.YtkfgimhihknpoaaTl3
namespace Go.Proofs.Ytkfgimhihknpoaa
open Go.RowKit
set_option linter.unusedVariables false

/-- What drawing a number leaves. -/
def DrawnI (w : World) (base R p k : Nat) (lo hi : Int) (e : Ending) (w' : World) : Prop :=
  ∃ (x : Int) (p' : Nat), e = .returned (.int .i64 x) ∧ lo ≤ x ∧ x ≤ hi ∧ p' ≤ p + k ∧ Rdr w' base R p' ∧ w.grownBy w' (some R)
theorem grownBy_drewN {w w' : World} {row : Option Nat} (h : w.grownBy w' row) (n : Nat) : w.grownBy (w'.drewN n) row :=
  grownBy_trans h ⟨rfl, rfl, rfl, Nat.le_refl _, fun _ _ _ => rfl⟩

/-- A pick out of a literal of two ints. -/
theorem pick2_any (base R p : Nat) (a b : Int) (w : World) (hp : p ≤ 1000000) (hr : Rdr w base R p) :
    Calls Try.prog 43 #[.pointer (some ⟨R, 0, none⟩), .int .i64 2] (w.alloc (.cells #[.int .i64 a, .int .i64 b] 3)) fun e w' => ∃ x : Nat, e = .returned (.int .i64 x) ∧ x < 2 ∧ w'.cell? ⟨w.heap.size, x, none⟩ = some (.int .i64 (if x = 0 then a else b)) ∧ Rdr w' base R (p + 1) ∧ w.grownBy w' (some R) := by
  refine (pick_any base R p 2 _ hp (by omega) (hr.alloc _)).mono ?_
  rintro e w1 ⟨x, rfl, hx, hr1, hg1⟩
  have hx2 : x < 2 := by have := hx (by omega); omega
  refine ⟨x, rfl, hx2, ?_, hr1, grownBy_trans (grownBy_alloc (World.grownBy.refl _ _) _) hg1⟩
  have hk : Blk w1 w.heap.size 3 #[.int .i64 a, .int .i64 b] := (Blk.new w 3 #[.int .i64 a, .int .i64 b]).grown hg1 (by have := hr.lt; intro h; injection h; omega)
  rw [hk.cell x]
  match x, hx2 with
  | 0, _ => rfl
  | 1, _ => rfl
set_option maxHeartbeats 1600000 in
theorem at_any (base R p n : Nat) (w : World) (hp : p ≤ 100000) (hn : n ≤ 1000000) (hr : Rdr w base R p) :
    Calls Try.prog 45 #[.pointer (some ⟨R, 0, none⟩), .int .i64 n] w (DrawnI w base R p 2 (-1) n) := by
  have HR := Lib.hid hr
  clear hr
  by_cases h0 : n = 0
  · subst h0
    go_enter Try.func45, Try.ntmps45
    go_wp2_with fail
    refine (pick2_any base R p (-1) 0 w (by omega) HR.out).mono ?_
    rintro e w1 ⟨x, rfl, hx, hc, hr1, hg1⟩
    have R1 := Lib.hid hr1
    have G1 := Lib.hid hg1
    have i1 : (x : Int) < 2 := by omega
    clear hr1 hg1
    obtain ⟨v, hv⟩ : ∃ v : Int, (if x = 0 then (-1 : Int) else 0) = v := ⟨_, rfl⟩
    have hv1 : -1 ≤ v ∧ v ≤ 0 := by rw [← hv]; split <;> omega
    rw [hv] at hc
    clear hv
    go_wp2_with fail
    go_ret
    exact ⟨v, p + 1, rfl, by omega, by omega, by omega, R1.out, G1.out⟩
  · have t0 := beq_f (show (n : Int) ≠ 0 by omega)
    have t0' : (n == 0) = false := by simpa using h0
    go_enter Try.func45, Try.ntmps45
    go_wp2_with fail
    refine (pick_any base R p 20 w (by omega) (by omega) HR.out).mono ?_
    rintro e w1 ⟨x, rfl, hx, hr1, hg1⟩
    have R1 := Lib.hid hr1
    have G1 := Lib.hid hg1
    clear hr1 hg1 hx
    by_cases hx0 : x = 0
    · subst hx0
      go_wp2_with fail
      refine (pick2_any base R (p + 1) (-1) n w1 (by omega) R1.out).mono ?_
      rintro e w2 ⟨x, rfl, hx, hc, hr1, hg1⟩
      have R2 := Lib.hid hr1
      have G2 := Lib.hid (grownBy_trans G1.out hg1)
      have i1 : (x : Int) < 2 := by omega
      clear hr1 hg1
      obtain ⟨v, hv⟩ : ∃ v : Int, (if x = 0 then (-1 : Int) else n) = v := ⟨_, rfl⟩
      have hv1 : -1 ≤ v ∧ v ≤ n := by rw [← hv]; split <;> omega
      rw [hv] at hc
      clear hv
      go_wp2_with fail
      go_ret
      exact ⟨v, p + 1 + 1, rfl, by omega, by omega, by omega, R2.out, G2.out⟩
    · have t1 := beq_f (show (x : Int) ≠ 0 by omega)
      have t1' : (x == 0) = false := by simpa using hx0
      go_wp2_with fail
      refine (pick_any base R (p + 1) n w1 (by omega) (by omega) R1.out).mono ?_
      rintro e w2 ⟨y, rfl, hy, hr1, hg1⟩
      have R2 := Lib.hid hr1
      have G2 := Lib.hid (grownBy_trans G1.out hg1)
      have hyn := hy (by omega)
      clear hr1 hg1 hy
      go_wp2_with fail
      go_ret
      exact ⟨y, p + 1 + 1, rfl, by omega, by omega, by omega, R2.out, G2.out⟩

def DrawSI (w : World) (mx : Nat) (e : Ending) (w' : World) : Prop := ∃ (s : Bs) (i : Int), e = .returned (.tuple #[.string s, .int .i64 i]) ∧ s.size ≤ mx ∧ -1 ≤ i ∧ i ≤ 100 ∧ Below w.heap.size w w'
set_option maxHeartbeats 1600000 in
theorem draw_step (A : Option Addr) (c m : Nat) (w : World) (hmc : m ≤ c) (hc : c ≤ 9223372036854775807) (hr : ByteRow w w.heap.size A m) :
    Calls Try.prog 20 #[.slice A m c] w (DrawSI w 15) := by
  have HO := Lib.hid (open_any w.heap.size A m c w (Nat.le_refl _) hmc hc hr)
  clear hr
  go_enter Try.func20, Try.ntmps20
  go_wp2_with fail
  refine HO.out.mono ?_
  rintro e w1 ⟨rfl, hr1, hb1⟩
  have HR1 := Lib.hid hr1
  have HB1 := Lib.hid hb1
  clear hr1 hb1 HO
  go_wp2_with fail
  refine (pick_any w.heap.size w.heap.size 0 6 _ (by omega) (by omega) HR1.out).mono ?_
  rintro e w2 ⟨x, rfl, hx, hr2, hg2⟩
  have hx7 : x < 6 := by have := hx (by omega); omega
  have HR2 := Lib.hid hr2
  have HB2 := Lib.hid (below_app HB1.out hg2 (Nat.le_refl _))
  clear hr2 hg2 hx
  have htr := fun w' hr => track_any w.heap.size w.heap.size (0 + 1) (1 + x) w' (by omega) (by omega) hr
  rw [show ((1 + x : Nat) : Int) = 1 + (x : Int) by omega] at htr
  have HTR := Lib.hid htr
  clear htr
  go_wp2_with fail
  refine (HTR.out _ HR2.out).mono ?_
  rintro e w3 ⟨s, p', rfl, hs, hp', hr3, hg3⟩
  have HR3 := Lib.hid hr3
  have HB3 := Lib.hid (below_app HB2.out hg3 (Nat.le_refl _))
  clear hg3 hr3
  have hnl := nx_length s s.size
  go_wp2_with fail
  refine (spec_next s _ (by omega)).mono ?_
  rintro e w4 ⟨g, d, rfl, ho4, hb4⟩
  have HR4 := Lib.hid (HR3.out.below hb4 HR3.out.lt)
  have HB4 := Lib.hid (below_to HB3.out hb4 HB3.out.size)
  have HO4 := Lib.hid ho4
  have HL4 := Lib.hid (Nat.lt_of_lt_of_le HR3.out.lt ho4.le)
  have hin : ∀ z ∈ nx s s.size, 0 ≤ z ∧ z ≤ 100 := by
    intro z hz
    have h0 : ∀ k, ∀ z ∈ nx s k, 0 ≤ z ∧ z < (k : Int) := by
      intro k
      induction k with
      | zero => intro z hz; simp [nx] at hz
      | succ k ih =>
        intro z hz
        simp only [nx] at hz
        split at hz
        · rcases List.mem_append.1 hz with hz | hz
          · have := ih z hz; omega
          · simp at hz; omega
        · have := ih z hz; omega
    have := h0 s.size z hz
    omega
  have HIN := Lib.hid hin
  clear ho4 hb4 hin
  obtain ⟨L, hL⟩ : ∃ L, nx s s.size = L := ⟨_, rfl⟩
  rw [hL] at HO4 HIN hnl ⊢
  clear hL
  have fin : ∀ (w5 : World) (p5 : Nat), p5 ≤ 20 → Rdr w5 w.heap.size w.heap.size p5 → Calls Try.prog 45 #[.pointer (some ⟨w.heap.size, 0, none⟩), .int .i64 (s.size : Nat)] w5 (DrawnI w5 w.heap.size w.heap.size p5 2 (-1) s.size) := fun w5 p5 h5 hr5 => at_any _ _ _ _ _ (by omega) (by omega) hr5
  have FIN := Lib.hid fin
  clear fin
  by_cases hl0 : L.length = 0
  · have hnil : L = [] := List.eq_nil_of_length_eq_zero hl0
    rw [hnil]
    clear hl0 hnil hnl HIN HO4
    go_wp2_with fail
    refine (FIN.out _ p' (by omega) HR4.out).mono ?_
    rintro e w5 ⟨i, p5, rfl, h1, h2, _, _, hg5⟩
    have HB5 := Lib.hid (below_app HB4.out hg5 (Nat.le_refl _))
    clear hg5
    go_wp2_with fail
    go_ret2
    exact ⟨s, i, rfl, by omega, by omega, by omega, HB5.out⟩
  · have t0 := dec_t (show 0 < L.length by omega)
    have t0' := dec_t (show (0 : Int) < (L.length : Int) by omega)
    go_wp2_with fail
    refine (pick_any w.heap.size w.heap.size p' 3 _ (by omega) (by omega) HR4.out).mono ?_
    rintro e w5 ⟨x5, rfl, _, hr5, hg5⟩
    have HR5 := Lib.hid hr5
    have HB5 := Lib.hid (below_app HB4.out hg5 (Nat.le_refl _))
    have HO5 := Lib.hid (HO4.out.grown hg5 (by have := HL4.out; intro h; injection h; omega))
    clear hg5 hr5
    by_cases hx5 : x5 = 0
    · subst hx5
      go_wp2_with fail
      refine (FIN.out _ (p' + 1) (by omega) HR5.out).mono ?_
      rintro e w6 ⟨i, p6, rfl, h1, h2, _, _, hg6⟩
      have HB6 := Lib.hid (below_app HB5.out hg6 (Nat.le_refl _))
      clear hg6
      go_wp2_with fail
      go_ret2
      exact ⟨s, i, rfl, by omega, by omega, by omega, HB6.out⟩
    · have t1 := dec_t (show 0 < x5 by omega)
      have t1' := dec_t (show (0 : Int) < (x5 : Int) by omega)
      have HR5d : Hid (Rdr w5.drew w.heap.size w.heap.size (p' + 1)) := HR5.out.keep fun _ _ => rfl
      have HB5d : Hid (Below w.heap.size w w5.drew) := ⟨HB5.out.os, HB5.out.tape, HB5.out.output, HB5.out.size, HB5.out.block⟩
      have HO5d : Hid (Own w5.drew w3.heap.size g d L) := OwnV.keep HO5.out rfl
      go_wp2_with fail
      go_region_with (first | (go_at_call 43; refine (pick_any w.heap.size w.heap.size (p' + 1) L.length _ (by omega) (by omega) HR5d.out).mono ?_; rintro e w6 ⟨x6, rfl, hx6, hr6, hg6⟩; have hxl : x6 < L.length := (by have := hx6 (by omega); omega); have i6 : (x6 : Int) < (L.length : Int) := (by omega); have HB6 := Lib.hid (below_app HB5d.out hg6 (Nat.le_refl _)); have hc6 := (HO5d.out.grown hg6 (by have := HL4.out; intro h; injection h; omega)).at x6 hxl; rw [Nat.zero_add] at hc6; have hi6 := HIN.out (L.getD x6 0) (by simp [List.getD, hxl]); obtain ⟨i, hi⟩ : ∃ i, L.getD x6 0 = i := ⟨_, rfl⟩; rw [hi] at hc6 hi6; clear hg6 hr6 hx6 hi))
      all_goals
        go_wp2_with fail
        go_ret2
        exact ⟨s, i, rfl, by omega, by omega, by omega, HB6.out⟩

end Go.Proofs.Ytkfgimhihknpoaa
