/-
  Registers' draws: some events (l91Events; region 10 printed by gen_rg21.py). No condition.
-/
import Derived.Test.YtebejpaghajhkaaRg20
namespace Go.Proofs.Ytebejpaghajhkaa
open Go.RowKit
set_option linter.unusedVariables false
set_option linter.unusedSimpArgs false

/-- Some text, drawn. -/
def SomeTx (w : World) (base R p n m : Nat) (e : Ending) (w' : World) : Prop := ∃ (S : ByteArray) (q : Nat), e = .returned (.string S) ∧ S.size ≤ m ∧ q ≤ p + n ∧ Rdr w' base R q ∧ w.grownBy w' (some R)
def Ev (w W : World) (base R q : Nat) (n : Int) (i o : Bool) : Prop := w.grownBy W (some R) ∧ Rdr W base R q ∧ Blk W w.heap.size 59 #[.int .i64 n, .bool i, .bool o] ∧ R < w.heap.size
section
variable {w W W' : World} {base R q : Nat} {n : Int} {i o : Bool}
theorem Ev.step (h : Ev w W base R q n i o) (k : Below W.heap.size W W') : Ev w W' base R q n i o := ⟨gbB h.1 k, rdB h.2.1 k, h.2.2.1.below k h.2.2.1.lt, h.2.2.2⟩
theorem Ev.drew (h : Ev w W base R q n i o) : Ev w W.drew base R q n i o := ⟨gbD h.1, rdD h.2.1, h.2.2.1, h.2.2.2⟩
theorem Ev.pick (h : Ev w W base R q n i o) (k : W.grownBy W' (some R)) (hr : Rdr W' base R (q + 1)) : Ev w W' base R (q + 1) n i o := ⟨grownBy_trans h.1 k, hr, blkG k h.2.2.1 (by have := h.2.2.2; omega), h.2.2.2⟩
theorem Ev.put (h : Ev w W base R q n i o) (x : BV) : Ev w (((W.setCell ⟨w.heap.size, 0, none⟩ (.int .i64 x.1)).setCell ⟨w.heap.size, 1, none⟩ (.bool x.2.1)).setCell ⟨w.heap.size, 2, none⟩ (.bool x.2.2)) base R q x.1 x.2.1 x.2.2 := by
  obtain ⟨h1, h2, h3, h4⟩ := h
  refine ⟨gbS (gbS (gbS h1 (by omega) _) (by omega) _) (by omega) _, rdS (rdS (rdS h2 (by omega) _) (by omega) _) (by omega) _, ?_, h4⟩
  have := ((h3.set_ 0 (.int .i64 x.1)).set_ 1 (.bool x.2.1)).set_ 2 (.bool x.2.2)
  simpa using this
end
theorem str_0 {s : ByteArray} : (s.toList == (⟨#[]⟩ : ByteArray).toList) = decide (s = ⟨#[]⟩) := by
  rw [Bool.eq_iff_iff, beq_iff_eq, decide_eq_true_eq]
  exact ⟨fun h => by rw [ByteArray.toList_eq, ByteArray.toList_eq] at h; obtain ⟨⟨l⟩⟩ := s; simp at h; rw [h], fun h => by rw [h]⟩
theorem lit_0 : (⟨#[]⟩ : ByteArray).toList = [] := by rw [ByteArray.toList_eq]
theorem size0 {s : ByteArray} (h : s.size = 0) : s = ⟨#[]⟩ := by
  obtain ⟨⟨l⟩⟩ := s
  have : l = [] := List.eq_nil_of_length_eq_zero h
  rw [this]
theorem ext1 {s : ByteArray} {y : Nat} (h : y < s.size) : (s.extract y (y + 1)).size = 1 := by
  rw [ByteArray.size_extract]
  omega
set_option maxHeartbeats 1600000 in
theorem l91Events_any (base R p N : Nat) (n : Int) (i o : Bool) (w : World) (hp : p ≤ 100000) (hN : N ≤ 31) (hr : Rdr w base R p) :
    Calls Try.prog 101 #[.pointer (some ⟨R, 0, none⟩), .agg #[.int .i64 n, .bool i, .bool o], .int .i64 (N : Int)] w (SomeTx w base R p (N + 2) (N + 2)) := by
  have E1 : Hid (Ev w (w.alloc (.cells #[.int .i64 n, .bool i, .bool o] 59)) base R p n i o) := Lib.hid ⟨gbA gbR, rdA hr, Blk.new _ _ _, hr.lt⟩
  have hbs := fun (n : Int) (i o : Bool) (s : ByteArray) (hs : s.size = 1) (W : World) => specBstep_any n i o s W (by omega)
  unfold BstV at hbs
  have HBS := Lib.hid hbs
  clear hbs hr
  go_enter Try.func101, Try.ntmps101
  go_wp2_with fail
  generalize w.alloc (.cells #[.int .i64 n, .bool i, .bool o] 59) = W1 at *
  go_loopw [7, 8] (fun q a wr => ∃ (k : Nat) (S : ByteArray) (n : Int) (i o : Bool), k ≤ N ∧ a = .int .i64 k ∧ q = .string S ∧ S.size ≤ k ∧ Ev w wr base R (p + k) n i o) (fun _ a _ => N - (intOf a).toNat)
  case atStart => exact ⟨0, ByteArray.empty, n, i, o, by omega, rfl, rfl, by decide, E1.out⟩
  case round =>
    clear E1
    obtain ⟨k, S, n, i, o, hk, rfl, rfl, hS, hb⟩ := hrel
    have E2 := Lib.hid hb
    clear hb
    by_cases hlt : k < N
    · have t0 := dec_t (show (k : Int) < (N : Int) by omega)
      have hkn : k + 1 ≤ N := hlt
      obtain ⟨c0, c1, c2, _, _, _⟩ := blkCells E2.out.2.2.1
      go_wp2_with fail
      refine (blockNext_any n i o wr).mono ?_
      rintro e w3 ⟨S2, rfl, hS2, hb3⟩
      have E3 := Lib.hid (E2.out.step hb3)
      clear hb3 E2 c0 c1 c2
      by_cases h0 : S2.size = 0
      · obtain rfl := size0 h0
        clear h0 hlt
        go_wp2_with fail
        go_ret
        exact ⟨S, p + k, rfl, by omega, by omega, E3.out.2.1, E3.out.1⟩
      · have te := (str_0 (s := S2)).trans (dec_f (fun h => h0 (by rw [h]; rfl)))
        have te' := te
        rw [lit_0] at te'
        go_wp2_with fail
        refine (pick_any base R (p + k) S2.size _ (by omega) (by omega) E3.out.2.1).mono ?_
        rintro e w5 ⟨y, rfl, hy, hr5, hg5⟩
        have hys : y < S2.size := by have := hy (by omega); omega
        have E5 := Lib.hid (E3.out.pick hg5 hr5)
        clear hy hr5 hg5 E3 te te' h0 hlt
        have hex := ext1 hys
        obtain ⟨x, hx⟩ : ∃ x, S2.extract y (y + 1) = x := ⟨_, rfl⟩
        rw [hx] at hex
        have i2 : (y : Int) < (S2.size : Int) := by omega
        have i3 : (y : Int) + 1 ≤ (S2.size : Int) := by omega
        have i4 : (0 : Int) ≤ (y : Int) := by omega
        have i5 : (y : Int) ≤ (y : Int) + 1 := by omega
        have i6 : IntKind.i64.wrap ((y : Int) + 1) = (y : Int) + 1 := IntWalk.i64_in _ (by omega)
        have hcc : S.size + x.size ≤ 9223372036854775807 := by omega
        have hcc2 : ¬ 9223372036854775807 < S.size + x.size := by omega
        have HEX := Lib.hid hex
        have hbx := HBS.out n i o x hex
        obtain ⟨⟨Xn, Xi, Xo⟩, hX⟩ : ∃ b, bst (n, i, o) x = b := ⟨_, rfl⟩
        obtain ⟨V, hV⟩ : ∃ V, decide (bstep (n, i, o) x < 5) = V := ⟨_, rfl⟩
        rw [hX, hV] at hbx
        simp only [bv] at hbx
        have HBX := Lib.hid hbx
        clear hbx hX hV hex
        obtain ⟨c0, c1, c2, f0, f1, f2⟩ := blkCells E5.out.2.2.1
        go_upto_region 10 with fail
        --@GEN10
        refine wp_region_held_drew (S := fun _ => True) (by kernel_rfl) ?_ (fun hHeld0 => ?_)
        · trivial
        refine wpAnyH_take (i := 1) (v := ?_) rfl (by kernel_rfl) (by kernel_rfl) (by kernel_rfl) (fun _ _ _ h => h) (Or.inl ⟨by rfl, ?_⟩) hHeld0 ?_
        rotate_left 1
        · intro w hSw
          try dsimp only at hSw
          go_simp
          first | done | with_reducible rfl
        try simp only [Act.put, List.setIfInBounds_toArray, List.set_cons_zero, List.set_cons_succ]
        refine wpAnyH_take (i := 2) (v := ?_) rfl (by kernel_rfl) (by kernel_rfl) (by kernel_rfl) (fun _ _ _ h => h) (Or.inl ⟨by rfl, ?_⟩) hHeld0 ?_
        rotate_left 1
        · intro w hSw
          try dsimp only at hSw
          go_simp
          first | done | with_reducible rfl
        try simp only [Act.put, List.setIfInBounds_toArray, List.set_cons_zero, List.set_cons_succ]
        refine wpAnyH_take (i := 3) (v := ?_) rfl (by kernel_rfl) (by kernel_rfl) (by kernel_rfl) (fun _ _ _ h => h) (Or.inl ⟨by rfl, ?_⟩) hHeld0 ?_
        rotate_left 1
        · intro w hSw
          try dsimp only at hSw
          go_simp
          first | done | with_reducible rfl
        try simp only [Act.put, List.setIfInBounds_toArray, List.set_cons_zero, List.set_cons_succ]
        refine wpAnyH_take (i := 4) (v := ?_) rfl (by kernel_rfl) (by kernel_rfl) (by kernel_rfl) (fun _ _ _ h => h) (Or.inl ⟨by rfl, ?_⟩) hHeld0 ?_
        rotate_left 1
        · intro w hSw
          try dsimp only at hSw
          go_simp
          first | done | with_reducible rfl
        try simp only [Act.put, List.setIfInBounds_toArray, List.set_cons_zero, List.set_cons_succ]
        refine wpAnyH_take (i := 5) (v := ?_) rfl (by kernel_rfl) (by kernel_rfl) (by kernel_rfl) (fun _ _ _ h => h) (Or.inl ⟨by rfl, ?_⟩) hHeld0 ?_
        rotate_left 1
        · intro w hSw
          try dsimp only at hSw
          go_simp
          first | done | with_reducible rfl
        try simp only [Act.put, List.setIfInBounds_toArray, List.set_cons_zero, List.set_cons_succ]
        refine wpAnyH_ready (rs := [0]) (by kernel_rfl) (by simp) ?_
        refine AllReadyH.cons rfl (fun K hK => ?_) AllReadyH.nil
        go_simp
        refine hK.out _ _ ?_ (fun hHeld1 => ?_)
        · trivial
        clear hK K hHeld0
        try simp only [Act.put, List.setIfInBounds_toArray, List.set_cons_zero, List.set_cons_succ]
        refine wpAnyH_ready (rs := [6]) (by kernel_rfl) (by simp) ?_
        refine AllReadyH.cons rfl (fun K hK => ?_) AllReadyH.nil
        go_simp
        refine (HBX.out _).mono ?_
        rintro e w8 ⟨rfl, hb8⟩
        have E8 := Lib.hid (E5.out.drew.step hb8)
        clear hb8 f0 f1 f2
        obtain ⟨d0, d1, d2, f0, f1, f2⟩ := blkCells E8.out.2.2.1
        go_wp2_with fail
        refine hK.out _ _ ?_ (fun hHeld2 => ?_)
        · trivial
        clear hK K hHeld1
        try simp only [Act.put, List.setIfInBounds_toArray, List.set_cons_zero, List.set_cons_succ]
        refine wpAnyH_take (i := 7) (v := ?_) rfl (by kernel_rfl) (by kernel_rfl) (by kernel_rfl) (fun _ _ _ h => h) (Or.inl ⟨by rfl, ?_⟩) hHeld2 ?_
        rotate_left 1
        · intro w hSw
          try dsimp only at hSw
          go_simp
          first | done | with_reducible rfl
        try simp only [Act.put, List.setIfInBounds_toArray, List.set_cons_zero, List.set_cons_succ]
        refine wpAnyH_take (i := 8) (v := ?_) rfl (by kernel_rfl) (by kernel_rfl) (by kernel_rfl) (fun _ _ _ h => h) (Or.inl ⟨by rfl, ?_⟩) hHeld2 ?_
        rotate_left 1
        · intro w hSw
          try dsimp only at hSw
          go_simp
          first | done | with_reducible rfl
        try simp only [Act.put, List.setIfInBounds_toArray, List.set_cons_zero, List.set_cons_succ]
        refine wpAnyH_take (i := 9) (v := ?_) rfl (by kernel_rfl) (by kernel_rfl) (by kernel_rfl) (fun _ _ _ h => h) (Or.inl ⟨by rfl, ?_⟩) hHeld2 ?_
        rotate_left 1
        · intro w hSw
          try dsimp only at hSw
          go_simp
          first | done | with_reducible rfl
        try simp only [Act.put, List.setIfInBounds_toArray, List.set_cons_zero, List.set_cons_succ]
        refine wpAnyH_ready (rs := [10]) (by kernel_rfl) (by simp) ?_
        refine AllReadyH.cons rfl (fun K hK => ?_) AllReadyH.nil
        go_simp
        refine hK.out _ _ ?_ (fun hHeld3 => ?_)
        · trivial
        clear hK K hHeld2
        try simp only [Act.put, List.setIfInBounds_toArray, List.set_cons_zero, List.set_cons_succ]
        refine wpAnyH_done (by kernel_rfl) ?_ _
        clear c0 c1 c2 d0 d1 d2 f0 f1 f2
        have E9 := Lib.hid (E8.out.put (Xn, Xi, Xo))
        go_wp2_with fail
        go_roundw
        case rel => exact ⟨k + 1, S ++ x, Xn, Xi, Xo, hkn, by go_num, rfl, by rw [ByteArray.size_append, HEX.out]; omega, E9.out⟩
        case measure => simp [intOf]; omega
        --@GEN10X
    · obtain rfl : k = N := by omega
      have t0 := dec_f (show ¬ (k : Int) < (k : Int) by omega)
      go_wp2_with fail
      refine (pick_any base R (p + k) 16 _ (by omega) (by omega) E2.out.2.1).mono ?_
      rintro e w5 ⟨y, rfl, hy, hr5, hg5⟩
      have E5 := Lib.hid (E2.out.pick hg5 hr5)
      clear hy hr5 hg5 E2
      by_cases h0 : y = 0
      · subst h0
        have hof := of_any base R (p + k + 1) w5.heap.size [⟨#[120]⟩, ⟨#[101]⟩, ⟨#[97, 97]⟩] _ (by omega) (rdA (o := .cells #[.string ⟨#[120]⟩, .string ⟨#[101]⟩, .string ⟨#[97, 97]⟩] 9) E5.out.2.1) (Nat.ne_of_gt E5.out.2.1.lt) (by simp) (by simp) (atStrs_new w5 9 [⟨#[120]⟩, ⟨#[101]⟩, ⟨#[97, 97]⟩])
        have HOF := Lib.hid hof
        clear hof
        go_wp2_with fail
        refine HOF.out.mono ?_
        rintro e w9 ⟨s, hs, rfl, hr9, hg9⟩
        have hs2 : s.size ≤ 2 := by
          simp only [List.mem_cons, List.not_mem_nil, or_false] at hs
          rcases hs with rfl | rfl | rfl <;> decide
        have hcc : S.size + s.size ≤ 9223372036854775807 := by omega
        have hcc2 : ¬ 9223372036854775807 < S.size + s.size := by omega
        have E9 := Lib.hid (Ev.pick (E5.out.step (below_new _ (.cells #[.string ⟨#[120]⟩, .string ⟨#[101]⟩, .string ⟨#[97, 97]⟩] 9))) hg9 hr9)
        clear hs hr9 hg9 HOF E5
        go_wp2_with fail
        go_ret
        exact ⟨S ++ s, p + k + 1 + 1, rfl, by rw [ByteArray.size_append]; omega, by omega, E9.out.2.1, E9.out.1⟩
      · have t1 := beq_f (show (y : Int) ≠ 0 by omega)
        have t1n : (y == 0) = false := by simpa using h0
        clear h0
        go_wp2_with fail
        go_ret
        exact ⟨S, p + k + 1, rfl, by omega, by omega, E5.out.2.1, E5.out.1⟩
end Go.Proofs.Ytebejpaghajhkaa
