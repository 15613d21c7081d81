/-
  DrawTrackRun. No condition.
-/
import Derived.Test.YtkfgimhihknpoaaTl11
import Derived.Deep.RegionWith
import Derived.Deep.RegionHeld3
import Derived.Deep.DeepFit
import Derived.Deep.DeepMust
namespace Go.Proofs.Ytkfgimhihknpoaa
open Go.RowKit
set_option linter.unusedVariables false
set_option linter.unusedSimpArgs false

theorem rdA {w : World} {base R p : Nat} {o : Obj} (h : Rdr w base R p) : Rdr (w.alloc o) base R p := h.alloc o
theorem rdD {w : World} {base R p : Nat} (h : Rdr w base R p) : Rdr w.drew base R p := h
theorem blA {w W : World} {o : Obj} (h : Below w.heap.size w W) : Below w.heap.size w (W.alloc o) := below_new' h o
theorem blD {w W : World} (h : Below w.heap.size w W) : Below w.heap.size w W.drew := h.drew
theorem grown_cell {W W' : World} {R : Nat} (h : W.grownBy W' (some R)) (b o : Nat) (h1 : b < W.heap.size) (h2 : ¬ b = R) : W'.cell? ⟨b, o, none⟩ = W.cell? ⟨b, o, none⟩ := by
  simp only [World.cell?, h.block b h1 (fun e => h2 (by injection e))]
theorem tr_three (n : Nat) (hn : n ≤ 9) (y : Nat) (hy : y < 3) : ∃ u : Nat, u ≤ 9 ∧ (#[.int .i64 0, .int .i64 9, .int .i64 (n : Int)] : Array Value)[y]? = some (.int .i64 (u : Int)) := by
  rcases (show y = 0 ∨ y = 1 ∨ y = 2 by omega) with rfl | rfl | rfl
  · exact ⟨0, by omega, rfl⟩
  · exact ⟨9, by omega, rfl⟩
  · exact ⟨n, hn, rfl⟩
theorem tr_two (n : Nat) (hn : n ≤ 9) (y : Nat) (hy : y < 2) : ∃ u : Nat, u ≤ 10 ∧ (#[.int .i64 0, .int .i64 ((n : Int) + 1)] : Array Value)[y]? = some (.int .i64 (u : Int)) := by
  rcases (show y = 0 ∨ y = 1 by omega) with rfl | rfl
  · exact ⟨0, by omega, rfl⟩
  · exact ⟨n + 1, by omega, rfl⟩
/-- What DrawTrackRun leaves. -/
def TwoN (w : World) (e : Ending) (w' : World) : Prop := ∃ n L : Nat, e = .returned (.tuple #[.int .i64 n, .int .i64 L]) ∧ n ≤ 9 ∧ L ≤ 10 ∧ Below w.heap.size w w'
set_option maxHeartbeats 6400000 in
theorem draw_trun (A : Option Addr) (c m : Nat) (w : World) (hmc : m ≤ c) (hc : c ≤ 9223372036854775807) (hr : ByteRow w w.heap.size A m) :
    Calls Try.prog 28 #[.slice A m c] w (TwoN w) := by
  have HO := Lib.hid (open_any w.heap.size A m c w (Nat.le_refl _) hmc hc hr)
  clear hr
  go_enter Try.func28, Try.ntmps28
  go_wp2_with fail
  refine HO.out.mono ?_
  rintro e w1 ⟨rfl, hr1, hb1⟩
  have R1 := Lib.hid hr1
  have B1 := Lib.hid hb1
  clear hr1 hb1 HO
  go_wp2_with fail
  refine (pick_any w.heap.size w.heap.size 0 8 _ (by omega) (by omega) R1.out).mono ?_
  rintro e w2 ⟨x, rfl, hx, hr2, hg2⟩
  obtain ⟨n, hn, hn1, hn8⟩ : ∃ n : Nat, 1 + (x : Int) = (n : Int) ∧ 1 ≤ n ∧ n ≤ 8 := ⟨1 + x, by omega, by omega, by have := hx (by omega); omega⟩
  have R2 := Lib.hid hr2
  have B2 := Lib.hid (below_app B1.out hg2 (Nat.le_refl _))
  have w0 : IntKind.i64.wrap (1 + (x : Int)) = 1 + (x : Int) := IntWalk.i64_in _ (by omega)
  clear hr2 hg2 hx R1 B1
  go_wp2_with fail
  clear hn w0
  refine (pick_any w.heap.size w.heap.size 1 12 _ (by omega) (by omega) R2.out).mono ?_
  rintro e w3 ⟨v, rfl, hv, hr3, hg3⟩
  have R3 := Lib.hid hr3
  have B3 := Lib.hid (below_app B2.out hg3 (Nat.le_refl _))
  clear hr3 hg3 hv R2 B2
  by_cases hv0 : v = 0
  · subst hv0
    have u1 : IntKind.i64.wrap ((n : Int) + 1) = (n : Int) + 1 := IntWalk.i64_in _ (by omega)
    have sl := R3.out.lt
    have n3 : ¬ w3.heap.size = w.heap.size := by omega
    have n4 : ¬ w3.heap.size + 1 = w.heap.size := by omega
    have HTH := Lib.hid (tr_three n (by omega))
    have HTW := Lib.hid (tr_two n (by omega))
    clear sl
    go_wp2_with fail
    --@GEN4
    refine wp_region_held_drew (S := fun _ => True) (by kernel_rfl) trivial (fun hHeld0 => ?_)
    clear hHeld0
    have R3d : Hid (Rdr w3.drew w.heap.size w.heap.size 2) := Lib.hid R3.out
    have B3d : Hid (Below w.heap.size w w3.drew) := Lib.hid B3.out.drew
    refine wpAnyH_take (i := 0) (v := ?_) rfl (by kernel_rfl) (by kernel_rfl) (by kernel_rfl) (fun _ _ _ h => h) (Or.inl ⟨by rfl, ?_⟩) trivial ?_
    rotate_left 1
    · intro w hSw
      clear hSw
      go_simp
      first | done | with_reducible rfl
    try simp only [Act.put, List.setIfInBounds_toArray, List.set_cons_zero, List.set_cons_succ]
    refine wpAnyH_take (i := 2) (v := ?_) rfl (by kernel_rfl) (by kernel_rfl) (by kernel_rfl) (fun _ _ _ h => h) (Or.inl ⟨by rfl, ?_⟩) trivial ?_
    rotate_left 1
    · intro w hSw
      clear hSw
      go_simp
      first | done | with_reducible rfl
    try simp only [Act.put, List.setIfInBounds_toArray, List.set_cons_zero, List.set_cons_succ]
    refine wpAnyH_take (i := 6) (v := ?_) rfl (by kernel_rfl) (by kernel_rfl) (by kernel_rfl) (fun _ _ _ h => h) (Or.inl ⟨by rfl, ?_⟩) trivial ?_
    rotate_left 1
    · intro w hSw
      clear hSw
      go_simp
      first | done | with_reducible rfl
    try simp only [Act.put, List.setIfInBounds_toArray, List.set_cons_zero, List.set_cons_succ]
    refine wpAnyH_take (i := 7) (v := ?_) rfl (by kernel_rfl) (by kernel_rfl) (by kernel_rfl) (fun _ _ _ h => h) (Or.inl ⟨by rfl, ?_⟩) trivial ?_
    rotate_left 1
    · intro w hSw
      clear hSw
      go_simp
      first | done | with_reducible rfl
    try simp only [Act.put, List.setIfInBounds_toArray, List.set_cons_zero, List.set_cons_succ]
    refine wpAnyH_take (i := 9) (v := ?_) rfl (by kernel_rfl) (by kernel_rfl) (by kernel_rfl) (fun _ _ _ h => h) (Or.inl ⟨by rfl, ?_⟩) trivial ?_
    rotate_left 1
    · intro w hSw
      clear hSw
      go_simp
      first | done | with_reducible rfl
    try simp only [Act.put, List.setIfInBounds_toArray, List.set_cons_zero, List.set_cons_succ]
    refine wpAnyH_ready (rs := [1, 3, 8]) (by kernel_rfl) (by simp) ?_
    refine AllReadyH.cons rfl (fun K hK => ?_) ?_
    · go_simp
      have R1 := Lib.hid (rdA (o := (.cells #[.int .i64 0, .int .i64 9, .int .i64 (n : Int)] 3)) R3d.out)
      have B1 : Hid (Below w.heap.size w (w3.drew.alloc (.cells #[.int .i64 0, .int .i64 9, .int .i64 (n : Int)] 3))) := Lib.hid (below_new' B3d.out _)
      have K1_1 : Hid (Blk (w3.drew.alloc (.cells #[.int .i64 0, .int .i64 9, .int .i64 (n : Int)] 3)) (w3.heap.size) 3 #[.int .i64 0, .int .i64 9, .int .i64 (n : Int)]) := Lib.hid (by simpa using Blk.new w3.drew 3 #[.int .i64 0, .int .i64 9, .int .i64 (n : Int)])
      have N1_1 : Hid (w3.heap.size ≠ w.heap.size) := Lib.hid (by have := R3d.out.lt; (try simp at this); omega)
      refine hK.out _ _ trivial (fun hHeld1 => ?_)
      clear hK K hHeld1
      try simp only [Act.put, List.setIfInBounds_toArray, List.set_cons_zero, List.set_cons_succ]
      refine wpAnyH_ready (rs := [3, 8]) (by kernel_rfl) (by simp) ?_
      refine AllReadyH.cons rfl (fun K hK => ?_) ?_
      · go_simp
        refine (pick_any w.heap.size w.heap.size 2 3 (w3.drew.alloc (.cells #[.int .i64 0, .int .i64 9, .int .i64 (n : Int)] 3)) (by omega) (by omega) R1.out).mono ?_
        rintro e w102 ⟨y2, rfl, hy, hr, hg⟩
        have hy2 : y2 < 3 := by have := hy (by omega); omega
        have iy2 : (y2 : Int) < 3 := by omega
        have R2 := Lib.hid hr
        have B2 := Lib.hid (below_app B1.out hg (Nat.le_refl _))
        have K2_1 := Lib.hid (Blk.grown K1_1.out hg (fun e => N1_1.out (by injection e)))
        obtain ⟨u3, hu3, hux2⟩ := HTH.out y2 hy2
        have H3 := Lib.hid hu3
        have X3 := Lib.hid hux2
        clear hy hr hg hu3 hux2
        go_wp2_with fail
        refine hK.out _ _ trivial (fun hHeld2 => ?_)
        clear hK K hHeld2
        try simp only [Act.put, List.setIfInBounds_toArray, List.set_cons_zero, List.set_cons_succ]
        refine wpAnyH_take (i := 4) (v := ?_) rfl (by kernel_rfl) (by kernel_rfl) (by kernel_rfl) (fun _ _ _ h => h) (Or.inl ⟨by rfl, ?_⟩) trivial ?_
        rotate_left 1
        · intro w hSw
          clear hSw
          go_simp
          first | done | with_reducible rfl
        try simp only [Act.put, List.setIfInBounds_toArray, List.set_cons_zero, List.set_cons_succ]
        refine wpAnyH_ready (rs := [5, 8, 10]) (by kernel_rfl) (by simp) ?_
        refine AllReadyH.cons rfl (fun K hK => ?_) ?_
        · have kc : (w102).cell? ⟨w3.heap.size, y2, none⟩ = some (.int .i64 (u3 : Int)) := (K2_1.out.cell y2).trans X3.out
          go_simp
          clear kc
          refine hK.out _ _ trivial (fun hHeld3 => ?_)
          clear hK K hHeld3
          try simp only [Act.put, List.setIfInBounds_toArray, List.set_cons_zero, List.set_cons_succ]
          refine wpAnyH_ready (rs := [8, 10]) (by kernel_rfl) (by simp) ?_
          refine AllReadyH.cons rfl (fun K hK => ?_) ?_
          · go_simp
            have R4 := Lib.hid (rdA (o := (.cells #[.int .i64 0, .int .i64 ((n : Int) + 1)] 3)) R2.out)
            have B4 : Hid (Below w.heap.size w (w102.alloc (.cells #[.int .i64 0, .int .i64 ((n : Int) + 1)] 3))) := Lib.hid (below_new' B2.out _)
            have K4_1 := Lib.hid (Blk.alloc K2_1.out (.cells #[.int .i64 0, .int .i64 ((n : Int) + 1)] 3))
            have K4_8 : Hid (Blk (w102.alloc (.cells #[.int .i64 0, .int .i64 ((n : Int) + 1)] 3)) (w102.heap.size) 3 #[.int .i64 0, .int .i64 ((n : Int) + 1)]) := Lib.hid (by simpa using Blk.new w102 3 #[.int .i64 0, .int .i64 ((n : Int) + 1)])
            have N4_8 : Hid (w102.heap.size ≠ w.heap.size) := Lib.hid (by have := R2.out.lt; (try simp at this); omega)
            refine hK.out _ _ trivial (fun hHeld4 => ?_)
            clear hK K hHeld4
            try simp only [Act.put, List.setIfInBounds_toArray, List.set_cons_zero, List.set_cons_succ]
            refine wpAnyH_ready (rs := [10]) (by kernel_rfl) (by simp) ?_
            refine AllReadyH.cons rfl (fun K hK => ?_) ?_
            · go_simp
              refine (pick_any w.heap.size w.heap.size 3 2 (w102.alloc (.cells #[.int .i64 0, .int .i64 ((n : Int) + 1)] 3)) (by omega) (by omega) R4.out).mono ?_
              rintro e w105 ⟨y5, rfl, hy, hr, hg⟩
              have hy5 : y5 < 2 := by have := hy (by omega); omega
              have iy5 : (y5 : Int) < 2 := by omega
              have R5 := Lib.hid hr
              have B5 := Lib.hid (below_app B4.out hg (Nat.le_refl _))
              have K5_1 := Lib.hid (Blk.grown K4_1.out hg (fun e => N1_1.out (by injection e)))
              have K5_8 := Lib.hid (Blk.grown K4_8.out hg (fun e => N4_8.out (by injection e)))
              obtain ⟨u2, hu2, hux5⟩ := HTW.out y5 hy5
              have H2 := Lib.hid hu2
              have X2 := Lib.hid hux5
              clear hy hr hg hu2 hux5
              go_wp2_with fail
              refine hK.out _ _ trivial (fun hHeld5 => ?_)
              clear hK K hHeld5
              try simp only [Act.put, List.setIfInBounds_toArray, List.set_cons_zero, List.set_cons_succ]
              refine wpAnyH_take (i := 11) (v := ?_) rfl (by kernel_rfl) (by kernel_rfl) (by kernel_rfl) (fun _ _ _ h => h) (Or.inl ⟨by rfl, ?_⟩) trivial ?_
              rotate_left 1
              · intro w hSw
                clear hSw
                go_simp
                first | done | with_reducible rfl
              try simp only [Act.put, List.setIfInBounds_toArray, List.set_cons_zero, List.set_cons_succ]
              refine wpAnyH_take (i := 13) (v := ?_) rfl (by kernel_rfl) (by kernel_rfl) (by kernel_rfl) (fun _ _ _ h => h) (Or.inl ⟨by rfl, ?_⟩) trivial ?_
              rotate_left 1
              · intro w hSw
                clear hSw
                go_simp
                first | done | with_reducible rfl
              try simp only [Act.put, List.setIfInBounds_toArray, List.set_cons_zero, List.set_cons_succ]
              refine wpAnyH_ready (rs := [12]) (by kernel_rfl) (by simp) ?_
              refine AllReadyH.cons rfl (fun K hK => ?_) ?_
              · have kc : (w105).cell? ⟨w102.heap.size, y5, none⟩ = some (.int .i64 (u2 : Int)) := (K5_8.out.cell y5).trans X2.out
                go_simp
                clear kc
                refine hK.out _ _ trivial (fun hHeld6 => ?_)
                clear hK K hHeld6
                try simp only [Act.put, List.setIfInBounds_toArray, List.set_cons_zero, List.set_cons_succ]
                refine wpAnyH_ready (rs := [14]) (by kernel_rfl) (by simp) ?_
                refine AllReadyH.cons rfl (fun K hK => ?_) ?_
                · go_simp
                  refine hK.out _ _ trivial (fun hHeld7 => ?_)
                  clear hK K hHeld7
                  try simp only [Act.put, List.setIfInBounds_toArray, List.set_cons_zero, List.set_cons_succ]
                  refine wpAnyH_done (by kernel_rfl) ?_ _
                  go_wp2_with fail
                  go_ret2
                  exact ⟨u3, u2, rfl, H3.out, H2.out, B5.out⟩
                exact AllReadyH.nil
              exact AllReadyH.nil
            exact AllReadyH.nil
          refine AllReadyH.cons rfl (fun K hK => ?_) ?_
          · go_simp
            refine (pick_any w.heap.size w.heap.size 3 2 w102 (by omega) (by omega) R2.out).mono ?_
            rintro e w108 ⟨y8, rfl, hy, hr, hg⟩
            have hy8 : y8 < 2 := by have := hy (by omega); omega
            have iy8 : (y8 : Int) < 2 := by omega
            have R8 := Lib.hid hr
            have B8 := Lib.hid (below_app B2.out hg (Nat.le_refl _))
            have K8_1 := Lib.hid (Blk.grown K2_1.out hg (fun e => N1_1.out (by injection e)))
            obtain ⟨u2, hu2, hux8⟩ := HTW.out y8 hy8
            have H2 := Lib.hid hu2
            have X2 := Lib.hid hux8
            clear hy hr hg hu2 hux8
            go_wp2_with fail
            refine hK.out _ _ trivial (fun hHeld8 => ?_)
            clear hK K hHeld8
            try simp only [Act.put, List.setIfInBounds_toArray, List.set_cons_zero, List.set_cons_succ]
            refine wpAnyH_take (i := 13) (v := ?_) rfl (by kernel_rfl) (by kernel_rfl) (by kernel_rfl) (fun _ _ _ h => h) (Or.inl ⟨by rfl, ?_⟩) trivial ?_
            rotate_left 1
            · intro w hSw
              clear hSw
              go_simp
              first | done | with_reducible rfl
            try simp only [Act.put, List.setIfInBounds_toArray, List.set_cons_zero, List.set_cons_succ]
            refine wpAnyH_ready (rs := [8]) (by kernel_rfl) (by simp) ?_
            refine AllReadyH.cons rfl (fun K hK => ?_) ?_
            · go_simp
              have R9 := Lib.hid (rdA (o := (.cells #[.int .i64 0, .int .i64 ((n : Int) + 1)] 3)) R8.out)
              have B9 : Hid (Below w.heap.size w (w108.alloc (.cells #[.int .i64 0, .int .i64 ((n : Int) + 1)] 3))) := Lib.hid (below_new' B8.out _)
              have K9_1 := Lib.hid (Blk.alloc K8_1.out (.cells #[.int .i64 0, .int .i64 ((n : Int) + 1)] 3))
              have K9_8 : Hid (Blk (w108.alloc (.cells #[.int .i64 0, .int .i64 ((n : Int) + 1)] 3)) (w108.heap.size) 3 #[.int .i64 0, .int .i64 ((n : Int) + 1)]) := Lib.hid (by simpa using Blk.new w108 3 #[.int .i64 0, .int .i64 ((n : Int) + 1)])
              have N9_8 : Hid (w108.heap.size ≠ w.heap.size) := Lib.hid (by have := R8.out.lt; (try simp at this); omega)
              refine hK.out _ _ trivial (fun hHeld9 => ?_)
              clear hK K hHeld9
              try simp only [Act.put, List.setIfInBounds_toArray, List.set_cons_zero, List.set_cons_succ]
              refine wpAnyH_take (i := 11) (v := ?_) rfl (by kernel_rfl) (by kernel_rfl) (by kernel_rfl) (fun _ _ _ h => h) (Or.inl ⟨by rfl, ?_⟩) trivial ?_
              rotate_left 1
              · intro w hSw
                clear hSw
                go_simp
                first | done | with_reducible rfl
              try simp only [Act.put, List.setIfInBounds_toArray, List.set_cons_zero, List.set_cons_succ]
              refine wpAnyH_ready (rs := [12]) (by kernel_rfl) (by simp) ?_
              refine AllReadyH.cons rfl (fun K hK => ?_) ?_
              · have kc : ((w108.alloc (.cells #[.int .i64 0, .int .i64 ((n : Int) + 1)] 3))).cell? ⟨w108.heap.size, y8, none⟩ = some (.int .i64 (u2 : Int)) := (K9_8.out.cell y8).trans X2.out
                go_simp
                clear kc
                refine hK.out _ _ trivial (fun hHeld10 => ?_)
                clear hK K hHeld10
                try simp only [Act.put, List.setIfInBounds_toArray, List.set_cons_zero, List.set_cons_succ]
                refine wpAnyH_ready (rs := [14]) (by kernel_rfl) (by simp) ?_
                refine AllReadyH.cons rfl (fun K hK => ?_) ?_
                · go_simp
                  refine hK.out _ _ trivial (fun hHeld11 => ?_)
                  clear hK K hHeld11
                  try simp only [Act.put, List.setIfInBounds_toArray, List.set_cons_zero, List.set_cons_succ]
                  refine wpAnyH_done (by kernel_rfl) ?_ _
                  go_wp2_with fail
                  go_ret2
                  exact ⟨u3, u2, rfl, H3.out, H2.out, B9.out⟩
                exact AllReadyH.nil
              exact AllReadyH.nil
            exact AllReadyH.nil
          exact AllReadyH.nil
        refine AllReadyH.cons rfl (fun K hK => ?_) ?_
        · go_simp
          have R12 := Lib.hid (rdA (o := (.cells #[.int .i64 0, .int .i64 ((n : Int) + 1)] 3)) R2.out)
          have B12 : Hid (Below w.heap.size w (w102.alloc (.cells #[.int .i64 0, .int .i64 ((n : Int) + 1)] 3))) := Lib.hid (below_new' B2.out _)
          have K12_1 := Lib.hid (Blk.alloc K2_1.out (.cells #[.int .i64 0, .int .i64 ((n : Int) + 1)] 3))
          have K12_8 : Hid (Blk (w102.alloc (.cells #[.int .i64 0, .int .i64 ((n : Int) + 1)] 3)) (w102.heap.size) 3 #[.int .i64 0, .int .i64 ((n : Int) + 1)]) := Lib.hid (by simpa using Blk.new w102 3 #[.int .i64 0, .int .i64 ((n : Int) + 1)])
          have N12_8 : Hid (w102.heap.size ≠ w.heap.size) := Lib.hid (by have := R2.out.lt; (try simp at this); omega)
          refine hK.out _ _ trivial (fun hHeld12 => ?_)
          clear hK K hHeld12
          try simp only [Act.put, List.setIfInBounds_toArray, List.set_cons_zero, List.set_cons_succ]
          refine wpAnyH_ready (rs := [5, 10]) (by kernel_rfl) (by simp) ?_
          refine AllReadyH.cons rfl (fun K hK => ?_) ?_
          · have kc : ((w102.alloc (.cells #[.int .i64 0, .int .i64 ((n : Int) + 1)] 3))).cell? ⟨w3.heap.size, y2, none⟩ = some (.int .i64 (u3 : Int)) := (K12_1.out.cell y2).trans X3.out
            go_simp
            clear kc
            refine hK.out _ _ trivial (fun hHeld13 => ?_)
            clear hK K hHeld13
            try simp only [Act.put, List.setIfInBounds_toArray, List.set_cons_zero, List.set_cons_succ]
            refine wpAnyH_ready (rs := [10]) (by kernel_rfl) (by simp) ?_
            refine AllReadyH.cons rfl (fun K hK => ?_) ?_
            · go_simp
              refine (pick_any w.heap.size w.heap.size 3 2 (w102.alloc (.cells #[.int .i64 0, .int .i64 ((n : Int) + 1)] 3)) (by omega) (by omega) R12.out).mono ?_
              rintro e w114 ⟨y14, rfl, hy, hr, hg⟩
              have hy14 : y14 < 2 := by have := hy (by omega); omega
              have iy14 : (y14 : Int) < 2 := by omega
              have R14 := Lib.hid hr
              have B14 := Lib.hid (below_app B12.out hg (Nat.le_refl _))
              have K14_1 := Lib.hid (Blk.grown K12_1.out hg (fun e => N1_1.out (by injection e)))
              have K14_8 := Lib.hid (Blk.grown K12_8.out hg (fun e => N12_8.out (by injection e)))
              obtain ⟨u2, hu2, hux14⟩ := HTW.out y14 hy14
              have H2 := Lib.hid hu2
              have X2 := Lib.hid hux14
              clear hy hr hg hu2 hux14
              go_wp2_with fail
              refine hK.out _ _ trivial (fun hHeld14 => ?_)
              clear hK K hHeld14
              try simp only [Act.put, List.setIfInBounds_toArray, List.set_cons_zero, List.set_cons_succ]
              refine wpAnyH_take (i := 11) (v := ?_) rfl (by kernel_rfl) (by kernel_rfl) (by kernel_rfl) (fun _ _ _ h => h) (Or.inl ⟨by rfl, ?_⟩) trivial ?_
              rotate_left 1
              · intro w hSw
                clear hSw
                go_simp
                first | done | with_reducible rfl
              try simp only [Act.put, List.setIfInBounds_toArray, List.set_cons_zero, List.set_cons_succ]
              refine wpAnyH_take (i := 13) (v := ?_) rfl (by kernel_rfl) (by kernel_rfl) (by kernel_rfl) (fun _ _ _ h => h) (Or.inl ⟨by rfl, ?_⟩) trivial ?_
              rotate_left 1
              · intro w hSw
                clear hSw
                go_simp
                first | done | with_reducible rfl
              try simp only [Act.put, List.setIfInBounds_toArray, List.set_cons_zero, List.set_cons_succ]
              refine wpAnyH_ready (rs := [12]) (by kernel_rfl) (by simp) ?_
              refine AllReadyH.cons rfl (fun K hK => ?_) ?_
              · have kc : (w114).cell? ⟨w102.heap.size, y14, none⟩ = some (.int .i64 (u2 : Int)) := (K14_8.out.cell y14).trans X2.out
                go_simp
                clear kc
                refine hK.out _ _ trivial (fun hHeld15 => ?_)
                clear hK K hHeld15
                try simp only [Act.put, List.setIfInBounds_toArray, List.set_cons_zero, List.set_cons_succ]
                refine wpAnyH_ready (rs := [14]) (by kernel_rfl) (by simp) ?_
                refine AllReadyH.cons rfl (fun K hK => ?_) ?_
                · go_simp
                  refine hK.out _ _ trivial (fun hHeld16 => ?_)
                  clear hK K hHeld16
                  try simp only [Act.put, List.setIfInBounds_toArray, List.set_cons_zero, List.set_cons_succ]
                  refine wpAnyH_done (by kernel_rfl) ?_ _
                  go_wp2_with fail
                  go_ret2
                  exact ⟨u3, u2, rfl, H3.out, H2.out, B14.out⟩
                exact AllReadyH.nil
              exact AllReadyH.nil
            exact AllReadyH.nil
          refine AllReadyH.cons rfl (fun K hK => ?_) ?_
          · go_simp
            refine (pick_any w.heap.size w.heap.size 3 2 (w102.alloc (.cells #[.int .i64 0, .int .i64 ((n : Int) + 1)] 3)) (by omega) (by omega) R12.out).mono ?_
            rintro e w117 ⟨y17, rfl, hy, hr, hg⟩
            have hy17 : y17 < 2 := by have := hy (by omega); omega
            have iy17 : (y17 : Int) < 2 := by omega
            have R17 := Lib.hid hr
            have B17 := Lib.hid (below_app B12.out hg (Nat.le_refl _))
            have K17_1 := Lib.hid (Blk.grown K12_1.out hg (fun e => N1_1.out (by injection e)))
            have K17_8 := Lib.hid (Blk.grown K12_8.out hg (fun e => N12_8.out (by injection e)))
            obtain ⟨u2, hu2, hux17⟩ := HTW.out y17 hy17
            have H2 := Lib.hid hu2
            have X2 := Lib.hid hux17
            clear hy hr hg hu2 hux17
            go_wp2_with fail
            refine hK.out _ _ trivial (fun hHeld17 => ?_)
            clear hK K hHeld17
            try simp only [Act.put, List.setIfInBounds_toArray, List.set_cons_zero, List.set_cons_succ]
            refine wpAnyH_take (i := 11) (v := ?_) rfl (by kernel_rfl) (by kernel_rfl) (by kernel_rfl) (fun _ _ _ h => h) (Or.inl ⟨by rfl, ?_⟩) trivial ?_
            rotate_left 1
            · intro w hSw
              clear hSw
              go_simp
              first | done | with_reducible rfl
            try simp only [Act.put, List.setIfInBounds_toArray, List.set_cons_zero, List.set_cons_succ]
            refine wpAnyH_ready (rs := [5, 12]) (by kernel_rfl) (by simp) ?_
            refine AllReadyH.cons rfl (fun K hK => ?_) ?_
            · have kc : (w117).cell? ⟨w3.heap.size, y2, none⟩ = some (.int .i64 (u3 : Int)) := (K17_1.out.cell y2).trans X3.out
              go_simp
              clear kc
              refine hK.out _ _ trivial (fun hHeld18 => ?_)
              clear hK K hHeld18
              try simp only [Act.put, List.setIfInBounds_toArray, List.set_cons_zero, List.set_cons_succ]
              refine wpAnyH_take (i := 13) (v := ?_) rfl (by kernel_rfl) (by kernel_rfl) (by kernel_rfl) (fun _ _ _ h => h) (Or.inl ⟨by rfl, ?_⟩) trivial ?_
              rotate_left 1
              · intro w hSw
                clear hSw
                go_simp
                first | done | with_reducible rfl
              try simp only [Act.put, List.setIfInBounds_toArray, List.set_cons_zero, List.set_cons_succ]
              refine wpAnyH_ready (rs := [12]) (by kernel_rfl) (by simp) ?_
              refine AllReadyH.cons rfl (fun K hK => ?_) ?_
              · have kc : (w117).cell? ⟨w102.heap.size, y17, none⟩ = some (.int .i64 (u2 : Int)) := (K17_8.out.cell y17).trans X2.out
                go_simp
                clear kc
                refine hK.out _ _ trivial (fun hHeld19 => ?_)
                clear hK K hHeld19
                try simp only [Act.put, List.setIfInBounds_toArray, List.set_cons_zero, List.set_cons_succ]
                refine wpAnyH_ready (rs := [14]) (by kernel_rfl) (by simp) ?_
                refine AllReadyH.cons rfl (fun K hK => ?_) ?_
                · go_simp
                  refine hK.out _ _ trivial (fun hHeld20 => ?_)
                  clear hK K hHeld20
                  try simp only [Act.put, List.setIfInBounds_toArray, List.set_cons_zero, List.set_cons_succ]
                  refine wpAnyH_done (by kernel_rfl) ?_ _
                  go_wp2_with fail
                  go_ret2
                  exact ⟨u3, u2, rfl, H3.out, H2.out, B17.out⟩
                exact AllReadyH.nil
              exact AllReadyH.nil
            refine AllReadyH.cons rfl (fun K hK => ?_) ?_
            · have kc : (w117).cell? ⟨w102.heap.size, y17, none⟩ = some (.int .i64 (u2 : Int)) := (K17_8.out.cell y17).trans X2.out
              go_simp
              clear kc
              refine hK.out _ _ trivial (fun hHeld21 => ?_)
              clear hK K hHeld21
              try simp only [Act.put, List.setIfInBounds_toArray, List.set_cons_zero, List.set_cons_succ]
              refine wpAnyH_ready (rs := [5]) (by kernel_rfl) (by simp) ?_
              refine AllReadyH.cons rfl (fun K hK => ?_) ?_
              · have kc : (w117).cell? ⟨w3.heap.size, y2, none⟩ = some (.int .i64 (u3 : Int)) := (K17_1.out.cell y2).trans X3.out
                go_simp
                clear kc
                refine hK.out _ _ trivial (fun hHeld22 => ?_)
                clear hK K hHeld22
                try simp only [Act.put, List.setIfInBounds_toArray, List.set_cons_zero, List.set_cons_succ]
                refine wpAnyH_take (i := 13) (v := ?_) rfl (by kernel_rfl) (by kernel_rfl) (by kernel_rfl) (fun _ _ _ h => h) (Or.inl ⟨by rfl, ?_⟩) trivial ?_
                rotate_left 1
                · intro w hSw
                  clear hSw
                  go_simp
                  first | done | with_reducible rfl
                try simp only [Act.put, List.setIfInBounds_toArray, List.set_cons_zero, List.set_cons_succ]
                refine wpAnyH_ready (rs := [14]) (by kernel_rfl) (by simp) ?_
                refine AllReadyH.cons rfl (fun K hK => ?_) ?_
                · go_simp
                  refine hK.out _ _ trivial (fun hHeld23 => ?_)
                  clear hK K hHeld23
                  try simp only [Act.put, List.setIfInBounds_toArray, List.set_cons_zero, List.set_cons_succ]
                  refine wpAnyH_done (by kernel_rfl) ?_ _
                  go_wp2_with fail
                  go_ret2
                  exact ⟨u3, u2, rfl, H3.out, H2.out, B17.out⟩
                exact AllReadyH.nil
              exact AllReadyH.nil
            exact AllReadyH.nil
          exact AllReadyH.nil
        refine AllReadyH.cons rfl (fun K hK => ?_) ?_
        · go_simp
          refine (pick_any w.heap.size w.heap.size 3 2 w102 (by omega) (by omega) R2.out).mono ?_
          rintro e w124 ⟨y24, rfl, hy, hr, hg⟩
          have hy24 : y24 < 2 := by have := hy (by omega); omega
          have iy24 : (y24 : Int) < 2 := by omega
          have R24 := Lib.hid hr
          have B24 := Lib.hid (below_app B2.out hg (Nat.le_refl _))
          have K24_1 := Lib.hid (Blk.grown K2_1.out hg (fun e => N1_1.out (by injection e)))
          obtain ⟨u2, hu2, hux24⟩ := HTW.out y24 hy24
          have H2 := Lib.hid hu2
          have X2 := Lib.hid hux24
          clear hy hr hg hu2 hux24
          go_wp2_with fail
          refine hK.out _ _ trivial (fun hHeld24 => ?_)
          clear hK K hHeld24
          try simp only [Act.put, List.setIfInBounds_toArray, List.set_cons_zero, List.set_cons_succ]
          refine wpAnyH_ready (rs := [5, 8]) (by kernel_rfl) (by simp) ?_
          refine AllReadyH.cons rfl (fun K hK => ?_) ?_
          · have kc : (w124).cell? ⟨w3.heap.size, y2, none⟩ = some (.int .i64 (u3 : Int)) := (K24_1.out.cell y2).trans X3.out
            go_simp
            clear kc
            refine hK.out _ _ trivial (fun hHeld25 => ?_)
            clear hK K hHeld25
            try simp only [Act.put, List.setIfInBounds_toArray, List.set_cons_zero, List.set_cons_succ]
            refine wpAnyH_take (i := 13) (v := ?_) rfl (by kernel_rfl) (by kernel_rfl) (by kernel_rfl) (fun _ _ _ h => h) (Or.inl ⟨by rfl, ?_⟩) trivial ?_
            rotate_left 1
            · intro w hSw
              clear hSw
              go_simp
              first | done | with_reducible rfl
            try simp only [Act.put, List.setIfInBounds_toArray, List.set_cons_zero, List.set_cons_succ]
            refine wpAnyH_ready (rs := [8]) (by kernel_rfl) (by simp) ?_
            refine AllReadyH.cons rfl (fun K hK => ?_) ?_
            · go_simp
              have R26 := Lib.hid (rdA (o := (.cells #[.int .i64 0, .int .i64 ((n : Int) + 1)] 3)) R24.out)
              have B26 : Hid (Below w.heap.size w (w124.alloc (.cells #[.int .i64 0, .int .i64 ((n : Int) + 1)] 3))) := Lib.hid (below_new' B24.out _)
              have K26_1 := Lib.hid (Blk.alloc K24_1.out (.cells #[.int .i64 0, .int .i64 ((n : Int) + 1)] 3))
              have K26_8 : Hid (Blk (w124.alloc (.cells #[.int .i64 0, .int .i64 ((n : Int) + 1)] 3)) (w124.heap.size) 3 #[.int .i64 0, .int .i64 ((n : Int) + 1)]) := Lib.hid (by simpa using Blk.new w124 3 #[.int .i64 0, .int .i64 ((n : Int) + 1)])
              have N26_8 : Hid (w124.heap.size ≠ w.heap.size) := Lib.hid (by have := R24.out.lt; (try simp at this); omega)
              refine hK.out _ _ trivial (fun hHeld26 => ?_)
              clear hK K hHeld26
              try simp only [Act.put, List.setIfInBounds_toArray, List.set_cons_zero, List.set_cons_succ]
              refine wpAnyH_take (i := 11) (v := ?_) rfl (by kernel_rfl) (by kernel_rfl) (by kernel_rfl) (fun _ _ _ h => h) (Or.inl ⟨by rfl, ?_⟩) trivial ?_
              rotate_left 1
              · intro w hSw
                clear hSw
                go_simp
                first | done | with_reducible rfl
              try simp only [Act.put, List.setIfInBounds_toArray, List.set_cons_zero, List.set_cons_succ]
              refine wpAnyH_ready (rs := [12]) (by kernel_rfl) (by simp) ?_
              refine AllReadyH.cons rfl (fun K hK => ?_) ?_
              · have kc : ((w124.alloc (.cells #[.int .i64 0, .int .i64 ((n : Int) + 1)] 3))).cell? ⟨w124.heap.size, y24, none⟩ = some (.int .i64 (u2 : Int)) := (K26_8.out.cell y24).trans X2.out
                go_simp
                clear kc
                refine hK.out _ _ trivial (fun hHeld27 => ?_)
                clear hK K hHeld27
                try simp only [Act.put, List.setIfInBounds_toArray, List.set_cons_zero, List.set_cons_succ]
                refine wpAnyH_ready (rs := [14]) (by kernel_rfl) (by simp) ?_
                refine AllReadyH.cons rfl (fun K hK => ?_) ?_
                · go_simp
                  refine hK.out _ _ trivial (fun hHeld28 => ?_)
                  clear hK K hHeld28
                  try simp only [Act.put, List.setIfInBounds_toArray, List.set_cons_zero, List.set_cons_succ]
                  refine wpAnyH_done (by kernel_rfl) ?_ _
                  go_wp2_with fail
                  go_ret2
                  exact ⟨u3, u2, rfl, H3.out, H2.out, B26.out⟩
                exact AllReadyH.nil
              exact AllReadyH.nil
            exact AllReadyH.nil
          refine AllReadyH.cons rfl (fun K hK => ?_) ?_
          · go_simp
            have R29 := Lib.hid (rdA (o := (.cells #[.int .i64 0, .int .i64 ((n : Int) + 1)] 3)) R24.out)
            have B29 : Hid (Below w.heap.size w (w124.alloc (.cells #[.int .i64 0, .int .i64 ((n : Int) + 1)] 3))) := Lib.hid (below_new' B24.out _)
            have K29_1 := Lib.hid (Blk.alloc K24_1.out (.cells #[.int .i64 0, .int .i64 ((n : Int) + 1)] 3))
            have K29_8 : Hid (Blk (w124.alloc (.cells #[.int .i64 0, .int .i64 ((n : Int) + 1)] 3)) (w124.heap.size) 3 #[.int .i64 0, .int .i64 ((n : Int) + 1)]) := Lib.hid (by simpa using Blk.new w124 3 #[.int .i64 0, .int .i64 ((n : Int) + 1)])
            have N29_8 : Hid (w124.heap.size ≠ w.heap.size) := Lib.hid (by have := R24.out.lt; (try simp at this); omega)
            refine hK.out _ _ trivial (fun hHeld29 => ?_)
            clear hK K hHeld29
            try simp only [Act.put, List.setIfInBounds_toArray, List.set_cons_zero, List.set_cons_succ]
            refine wpAnyH_take (i := 11) (v := ?_) rfl (by kernel_rfl) (by kernel_rfl) (by kernel_rfl) (fun _ _ _ h => h) (Or.inl ⟨by rfl, ?_⟩) trivial ?_
            rotate_left 1
            · intro w hSw
              clear hSw
              go_simp
              first | done | with_reducible rfl
            try simp only [Act.put, List.setIfInBounds_toArray, List.set_cons_zero, List.set_cons_succ]
            refine wpAnyH_ready (rs := [5, 12]) (by kernel_rfl) (by simp) ?_
            refine AllReadyH.cons rfl (fun K hK => ?_) ?_
            · have kc : ((w124.alloc (.cells #[.int .i64 0, .int .i64 ((n : Int) + 1)] 3))).cell? ⟨w3.heap.size, y2, none⟩ = some (.int .i64 (u3 : Int)) := (K29_1.out.cell y2).trans X3.out
              go_simp
              clear kc
              refine hK.out _ _ trivial (fun hHeld30 => ?_)
              clear hK K hHeld30
              try simp only [Act.put, List.setIfInBounds_toArray, List.set_cons_zero, List.set_cons_succ]
              refine wpAnyH_take (i := 13) (v := ?_) rfl (by kernel_rfl) (by kernel_rfl) (by kernel_rfl) (fun _ _ _ h => h) (Or.inl ⟨by rfl, ?_⟩) trivial ?_
              rotate_left 1
              · intro w hSw
                clear hSw
                go_simp
                first | done | with_reducible rfl
              try simp only [Act.put, List.setIfInBounds_toArray, List.set_cons_zero, List.set_cons_succ]
              refine wpAnyH_ready (rs := [12]) (by kernel_rfl) (by simp) ?_
              refine AllReadyH.cons rfl (fun K hK => ?_) ?_
              · have kc : ((w124.alloc (.cells #[.int .i64 0, .int .i64 ((n : Int) + 1)] 3))).cell? ⟨w124.heap.size, y24, none⟩ = some (.int .i64 (u2 : Int)) := (K29_8.out.cell y24).trans X2.out
                go_simp
                clear kc
                refine hK.out _ _ trivial (fun hHeld31 => ?_)
                clear hK K hHeld31
                try simp only [Act.put, List.setIfInBounds_toArray, List.set_cons_zero, List.set_cons_succ]
                refine wpAnyH_ready (rs := [14]) (by kernel_rfl) (by simp) ?_
                refine AllReadyH.cons rfl (fun K hK => ?_) ?_
                · go_simp
                  refine hK.out _ _ trivial (fun hHeld32 => ?_)
                  clear hK K hHeld32
                  try simp only [Act.put, List.setIfInBounds_toArray, List.set_cons_zero, List.set_cons_succ]
                  refine wpAnyH_done (by kernel_rfl) ?_ _
                  go_wp2_with fail
                  go_ret2
                  exact ⟨u3, u2, rfl, H3.out, H2.out, B29.out⟩
                exact AllReadyH.nil
              exact AllReadyH.nil
            refine AllReadyH.cons rfl (fun K hK => ?_) ?_
            · have kc : ((w124.alloc (.cells #[.int .i64 0, .int .i64 ((n : Int) + 1)] 3))).cell? ⟨w124.heap.size, y24, none⟩ = some (.int .i64 (u2 : Int)) := (K29_8.out.cell y24).trans X2.out
              go_simp
              clear kc
              refine hK.out _ _ trivial (fun hHeld33 => ?_)
              clear hK K hHeld33
              try simp only [Act.put, List.setIfInBounds_toArray, List.set_cons_zero, List.set_cons_succ]
              refine wpAnyH_ready (rs := [5]) (by kernel_rfl) (by simp) ?_
              refine AllReadyH.cons rfl (fun K hK => ?_) ?_
              · have kc : ((w124.alloc (.cells #[.int .i64 0, .int .i64 ((n : Int) + 1)] 3))).cell? ⟨w3.heap.size, y2, none⟩ = some (.int .i64 (u3 : Int)) := (K29_1.out.cell y2).trans X3.out
                go_simp
                clear kc
                refine hK.out _ _ trivial (fun hHeld34 => ?_)
                clear hK K hHeld34
                try simp only [Act.put, List.setIfInBounds_toArray, List.set_cons_zero, List.set_cons_succ]
                refine wpAnyH_take (i := 13) (v := ?_) rfl (by kernel_rfl) (by kernel_rfl) (by kernel_rfl) (fun _ _ _ h => h) (Or.inl ⟨by rfl, ?_⟩) trivial ?_
                rotate_left 1
                · intro w hSw
                  clear hSw
                  go_simp
                  first | done | with_reducible rfl
                try simp only [Act.put, List.setIfInBounds_toArray, List.set_cons_zero, List.set_cons_succ]
                refine wpAnyH_ready (rs := [14]) (by kernel_rfl) (by simp) ?_
                refine AllReadyH.cons rfl (fun K hK => ?_) ?_
                · go_simp
                  refine hK.out _ _ trivial (fun hHeld35 => ?_)
                  clear hK K hHeld35
                  try simp only [Act.put, List.setIfInBounds_toArray, List.set_cons_zero, List.set_cons_succ]
                  refine wpAnyH_done (by kernel_rfl) ?_ _
                  go_wp2_with fail
                  go_ret2
                  exact ⟨u3, u2, rfl, H3.out, H2.out, B29.out⟩
                exact AllReadyH.nil
              exact AllReadyH.nil
            exact AllReadyH.nil
          exact AllReadyH.nil
        exact AllReadyH.nil
      refine AllReadyH.cons rfl (fun K hK => ?_) ?_
      · go_simp
        have R36 := Lib.hid (rdA (o := (.cells #[.int .i64 0, .int .i64 ((n : Int) + 1)] 3)) R1.out)
        have B36 : Hid (Below w.heap.size w ((w3.drew.alloc (.cells #[.int .i64 0, .int .i64 9, .int .i64 (n : Int)] 3)).alloc (.cells #[.int .i64 0, .int .i64 ((n : Int) + 1)] 3))) := Lib.hid (below_new' B1.out _)
        have K36_1 := Lib.hid (Blk.alloc K1_1.out (.cells #[.int .i64 0, .int .i64 ((n : Int) + 1)] 3))
        have K36_8 : Hid (Blk ((w3.drew.alloc (.cells #[.int .i64 0, .int .i64 9, .int .i64 (n : Int)] 3)).alloc (.cells #[.int .i64 0, .int .i64 ((n : Int) + 1)] 3)) (w3.heap.size + 1) 3 #[.int .i64 0, .int .i64 ((n : Int) + 1)]) := Lib.hid (by simpa using Blk.new (w3.drew.alloc (.cells #[.int .i64 0, .int .i64 9, .int .i64 (n : Int)] 3)) 3 #[.int .i64 0, .int .i64 ((n : Int) + 1)])
        have N36_8 : Hid (w3.heap.size + 1 ≠ w.heap.size) := Lib.hid (by have := R1.out.lt; (try simp at this); omega)
        refine hK.out _ _ trivial (fun hHeld36 => ?_)
        clear hK K hHeld36
        try simp only [Act.put, List.setIfInBounds_toArray, List.set_cons_zero, List.set_cons_succ]
        refine wpAnyH_ready (rs := [3]) (by kernel_rfl) (by simp) ?_
        refine AllReadyH.cons rfl (fun K hK => ?_) ?_
        · go_simp
          refine (pick_any w.heap.size w.heap.size 2 3 ((w3.drew.alloc (.cells #[.int .i64 0, .int .i64 9, .int .i64 (n : Int)] 3)).alloc (.cells #[.int .i64 0, .int .i64 ((n : Int) + 1)] 3)) (by omega) (by omega) R36.out).mono ?_
          rintro e w137 ⟨y37, rfl, hy, hr, hg⟩
          have hy37 : y37 < 3 := by have := hy (by omega); omega
          have iy37 : (y37 : Int) < 3 := by omega
          have R37 := Lib.hid hr
          have B37 := Lib.hid (below_app B36.out hg (Nat.le_refl _))
          have K37_1 := Lib.hid (Blk.grown K36_1.out hg (fun e => N1_1.out (by injection e)))
          have K37_8 := Lib.hid (Blk.grown K36_8.out hg (fun e => N36_8.out (by injection e)))
          obtain ⟨u3, hu3, hux37⟩ := HTH.out y37 hy37
          have H3 := Lib.hid hu3
          have X3 := Lib.hid hux37
          clear hy hr hg hu3 hux37
          go_wp2_with fail
          refine hK.out _ _ trivial (fun hHeld37 => ?_)
          clear hK K hHeld37
          try simp only [Act.put, List.setIfInBounds_toArray, List.set_cons_zero, List.set_cons_succ]
          refine wpAnyH_take (i := 4) (v := ?_) rfl (by kernel_rfl) (by kernel_rfl) (by kernel_rfl) (fun _ _ _ h => h) (Or.inl ⟨by rfl, ?_⟩) trivial ?_
          rotate_left 1
          · intro w hSw
            clear hSw
            go_simp
            first | done | with_reducible rfl
          try simp only [Act.put, List.setIfInBounds_toArray, List.set_cons_zero, List.set_cons_succ]
          refine wpAnyH_ready (rs := [5, 10]) (by kernel_rfl) (by simp) ?_
          refine AllReadyH.cons rfl (fun K hK => ?_) ?_
          · have kc : (w137).cell? ⟨w3.heap.size, y37, none⟩ = some (.int .i64 (u3 : Int)) := (K37_1.out.cell y37).trans X3.out
            go_simp
            clear kc
            refine hK.out _ _ trivial (fun hHeld38 => ?_)
            clear hK K hHeld38
            try simp only [Act.put, List.setIfInBounds_toArray, List.set_cons_zero, List.set_cons_succ]
            refine wpAnyH_ready (rs := [10]) (by kernel_rfl) (by simp) ?_
            refine AllReadyH.cons rfl (fun K hK => ?_) ?_
            · go_simp
              refine (pick_any w.heap.size w.heap.size 3 2 w137 (by omega) (by omega) R37.out).mono ?_
              rintro e w139 ⟨y39, rfl, hy, hr, hg⟩
              have hy39 : y39 < 2 := by have := hy (by omega); omega
              have iy39 : (y39 : Int) < 2 := by omega
              have R39 := Lib.hid hr
              have B39 := Lib.hid (below_app B37.out hg (Nat.le_refl _))
              have K39_1 := Lib.hid (Blk.grown K37_1.out hg (fun e => N1_1.out (by injection e)))
              have K39_8 := Lib.hid (Blk.grown K37_8.out hg (fun e => N36_8.out (by injection e)))
              obtain ⟨u2, hu2, hux39⟩ := HTW.out y39 hy39
              have H2 := Lib.hid hu2
              have X2 := Lib.hid hux39
              clear hy hr hg hu2 hux39
              go_wp2_with fail
              refine hK.out _ _ trivial (fun hHeld39 => ?_)
              clear hK K hHeld39
              try simp only [Act.put, List.setIfInBounds_toArray, List.set_cons_zero, List.set_cons_succ]
              refine wpAnyH_take (i := 11) (v := ?_) rfl (by kernel_rfl) (by kernel_rfl) (by kernel_rfl) (fun _ _ _ h => h) (Or.inl ⟨by rfl, ?_⟩) trivial ?_
              rotate_left 1
              · intro w hSw
                clear hSw
                go_simp
                first | done | with_reducible rfl
              try simp only [Act.put, List.setIfInBounds_toArray, List.set_cons_zero, List.set_cons_succ]
              refine wpAnyH_take (i := 13) (v := ?_) rfl (by kernel_rfl) (by kernel_rfl) (by kernel_rfl) (fun _ _ _ h => h) (Or.inl ⟨by rfl, ?_⟩) trivial ?_
              rotate_left 1
              · intro w hSw
                clear hSw
                go_simp
                first | done | with_reducible rfl
              try simp only [Act.put, List.setIfInBounds_toArray, List.set_cons_zero, List.set_cons_succ]
              refine wpAnyH_ready (rs := [12]) (by kernel_rfl) (by simp) ?_
              refine AllReadyH.cons rfl (fun K hK => ?_) ?_
              · have kc : (w139).cell? ⟨w3.heap.size + 1, y39, none⟩ = some (.int .i64 (u2 : Int)) := (K39_8.out.cell y39).trans X2.out
                go_simp
                clear kc
                refine hK.out _ _ trivial (fun hHeld40 => ?_)
                clear hK K hHeld40
                try simp only [Act.put, List.setIfInBounds_toArray, List.set_cons_zero, List.set_cons_succ]
                refine wpAnyH_ready (rs := [14]) (by kernel_rfl) (by simp) ?_
                refine AllReadyH.cons rfl (fun K hK => ?_) ?_
                · go_simp
                  refine hK.out _ _ trivial (fun hHeld41 => ?_)
                  clear hK K hHeld41
                  try simp only [Act.put, List.setIfInBounds_toArray, List.set_cons_zero, List.set_cons_succ]
                  refine wpAnyH_done (by kernel_rfl) ?_ _
                  go_wp2_with fail
                  go_ret2
                  exact ⟨u3, u2, rfl, H3.out, H2.out, B39.out⟩
                exact AllReadyH.nil
              exact AllReadyH.nil
            exact AllReadyH.nil
          refine AllReadyH.cons rfl (fun K hK => ?_) ?_
          · go_simp
            refine (pick_any w.heap.size w.heap.size 3 2 w137 (by omega) (by omega) R37.out).mono ?_
            rintro e w142 ⟨y42, rfl, hy, hr, hg⟩
            have hy42 : y42 < 2 := by have := hy (by omega); omega
            have iy42 : (y42 : Int) < 2 := by omega
            have R42 := Lib.hid hr
            have B42 := Lib.hid (below_app B37.out hg (Nat.le_refl _))
            have K42_1 := Lib.hid (Blk.grown K37_1.out hg (fun e => N1_1.out (by injection e)))
            have K42_8 := Lib.hid (Blk.grown K37_8.out hg (fun e => N36_8.out (by injection e)))
            obtain ⟨u2, hu2, hux42⟩ := HTW.out y42 hy42
            have H2 := Lib.hid hu2
            have X2 := Lib.hid hux42
            clear hy hr hg hu2 hux42
            go_wp2_with fail
            refine hK.out _ _ trivial (fun hHeld42 => ?_)
            clear hK K hHeld42
            try simp only [Act.put, List.setIfInBounds_toArray, List.set_cons_zero, List.set_cons_succ]
            refine wpAnyH_take (i := 11) (v := ?_) rfl (by kernel_rfl) (by kernel_rfl) (by kernel_rfl) (fun _ _ _ h => h) (Or.inl ⟨by rfl, ?_⟩) trivial ?_
            rotate_left 1
            · intro w hSw
              clear hSw
              go_simp
              first | done | with_reducible rfl
            try simp only [Act.put, List.setIfInBounds_toArray, List.set_cons_zero, List.set_cons_succ]
            refine wpAnyH_ready (rs := [5, 12]) (by kernel_rfl) (by simp) ?_
            refine AllReadyH.cons rfl (fun K hK => ?_) ?_
            · have kc : (w142).cell? ⟨w3.heap.size, y37, none⟩ = some (.int .i64 (u3 : Int)) := (K42_1.out.cell y37).trans X3.out
              go_simp
              clear kc
              refine hK.out _ _ trivial (fun hHeld43 => ?_)
              clear hK K hHeld43
              try simp only [Act.put, List.setIfInBounds_toArray, List.set_cons_zero, List.set_cons_succ]
              refine wpAnyH_take (i := 13) (v := ?_) rfl (by kernel_rfl) (by kernel_rfl) (by kernel_rfl) (fun _ _ _ h => h) (Or.inl ⟨by rfl, ?_⟩) trivial ?_
              rotate_left 1
              · intro w hSw
                clear hSw
                go_simp
                first | done | with_reducible rfl
              try simp only [Act.put, List.setIfInBounds_toArray, List.set_cons_zero, List.set_cons_succ]
              refine wpAnyH_ready (rs := [12]) (by kernel_rfl) (by simp) ?_
              refine AllReadyH.cons rfl (fun K hK => ?_) ?_
              · have kc : (w142).cell? ⟨w3.heap.size + 1, y42, none⟩ = some (.int .i64 (u2 : Int)) := (K42_8.out.cell y42).trans X2.out
                go_simp
                clear kc
                refine hK.out _ _ trivial (fun hHeld44 => ?_)
                clear hK K hHeld44
                try simp only [Act.put, List.setIfInBounds_toArray, List.set_cons_zero, List.set_cons_succ]
                refine wpAnyH_ready (rs := [14]) (by kernel_rfl) (by simp) ?_
                refine AllReadyH.cons rfl (fun K hK => ?_) ?_
                · go_simp
                  refine hK.out _ _ trivial (fun hHeld45 => ?_)
                  clear hK K hHeld45
                  try simp only [Act.put, List.setIfInBounds_toArray, List.set_cons_zero, List.set_cons_succ]
                  refine wpAnyH_done (by kernel_rfl) ?_ _
                  go_wp2_with fail
                  go_ret2
                  exact ⟨u3, u2, rfl, H3.out, H2.out, B42.out⟩
                exact AllReadyH.nil
              exact AllReadyH.nil
            refine AllReadyH.cons rfl (fun K hK => ?_) ?_
            · have kc : (w142).cell? ⟨w3.heap.size + 1, y42, none⟩ = some (.int .i64 (u2 : Int)) := (K42_8.out.cell y42).trans X2.out
              go_simp
              clear kc
              refine hK.out _ _ trivial (fun hHeld46 => ?_)
              clear hK K hHeld46
              try simp only [Act.put, List.setIfInBounds_toArray, List.set_cons_zero, List.set_cons_succ]
              refine wpAnyH_ready (rs := [5]) (by kernel_rfl) (by simp) ?_
              refine AllReadyH.cons rfl (fun K hK => ?_) ?_
              · have kc : (w142).cell? ⟨w3.heap.size, y37, none⟩ = some (.int .i64 (u3 : Int)) := (K42_1.out.cell y37).trans X3.out
                go_simp
                clear kc
                refine hK.out _ _ trivial (fun hHeld47 => ?_)
                clear hK K hHeld47
                try simp only [Act.put, List.setIfInBounds_toArray, List.set_cons_zero, List.set_cons_succ]
                refine wpAnyH_take (i := 13) (v := ?_) rfl (by kernel_rfl) (by kernel_rfl) (by kernel_rfl) (fun _ _ _ h => h) (Or.inl ⟨by rfl, ?_⟩) trivial ?_
                rotate_left 1
                · intro w hSw
                  clear hSw
                  go_simp
                  first | done | with_reducible rfl
                try simp only [Act.put, List.setIfInBounds_toArray, List.set_cons_zero, List.set_cons_succ]
                refine wpAnyH_ready (rs := [14]) (by kernel_rfl) (by simp) ?_
                refine AllReadyH.cons rfl (fun K hK => ?_) ?_
                · go_simp
                  refine hK.out _ _ trivial (fun hHeld48 => ?_)
                  clear hK K hHeld48
                  try simp only [Act.put, List.setIfInBounds_toArray, List.set_cons_zero, List.set_cons_succ]
                  refine wpAnyH_done (by kernel_rfl) ?_ _
                  go_wp2_with fail
                  go_ret2
                  exact ⟨u3, u2, rfl, H3.out, H2.out, B42.out⟩
                exact AllReadyH.nil
              exact AllReadyH.nil
            exact AllReadyH.nil
          exact AllReadyH.nil
        exact AllReadyH.nil
      exact AllReadyH.nil
    refine AllReadyH.cons rfl (fun K hK => ?_) ?_
    · go_simp
      refine (pick_any w.heap.size w.heap.size 2 3 w3.drew (by omega) (by omega) R3d.out).mono ?_
      rintro e w149 ⟨y49, rfl, hy, hr, hg⟩
      have hy49 : y49 < 3 := by have := hy (by omega); omega
      have iy49 : (y49 : Int) < 3 := by omega
      have R49 := Lib.hid hr
      have B49 := Lib.hid (below_app B3d.out hg (Nat.le_refl _))
      obtain ⟨u3, hu3, hux49⟩ := HTH.out y49 hy49
      have H3 := Lib.hid hu3
      have X3 := Lib.hid hux49
      clear hy hr hg hu3 hux49
      go_wp2_with fail
      refine hK.out _ _ trivial (fun hHeld49 => ?_)
      clear hK K hHeld49
      try simp only [Act.put, List.setIfInBounds_toArray, List.set_cons_zero, List.set_cons_succ]
      refine wpAnyH_ready (rs := [1, 8, 10]) (by kernel_rfl) (by simp) ?_
      refine AllReadyH.cons rfl (fun K hK => ?_) ?_
      · go_simp
        have R50 := Lib.hid (rdA (o := (.cells #[.int .i64 0, .int .i64 9, .int .i64 (n : Int)] 3)) R49.out)
        have B50 : Hid (Below w.heap.size w (w149.alloc (.cells #[.int .i64 0, .int .i64 9, .int .i64 (n : Int)] 3))) := Lib.hid (below_new' B49.out _)
        have K50_1 : Hid (Blk (w149.alloc (.cells #[.int .i64 0, .int .i64 9, .int .i64 (n : Int)] 3)) (w149.heap.size) 3 #[.int .i64 0, .int .i64 9, .int .i64 (n : Int)]) := Lib.hid (by simpa using Blk.new w149 3 #[.int .i64 0, .int .i64 9, .int .i64 (n : Int)])
        have N50_1 : Hid (w149.heap.size ≠ w.heap.size) := Lib.hid (by have := R49.out.lt; (try simp at this); omega)
        refine hK.out _ _ trivial (fun hHeld50 => ?_)
        clear hK K hHeld50
        try simp only [Act.put, List.setIfInBounds_toArray, List.set_cons_zero, List.set_cons_succ]
        refine wpAnyH_take (i := 4) (v := ?_) rfl (by kernel_rfl) (by kernel_rfl) (by kernel_rfl) (fun _ _ _ h => h) (Or.inl ⟨by rfl, ?_⟩) trivial ?_
        rotate_left 1
        · intro w hSw
          clear hSw
          go_simp
          first | done | with_reducible rfl
        try simp only [Act.put, List.setIfInBounds_toArray, List.set_cons_zero, List.set_cons_succ]
        refine wpAnyH_ready (rs := [5, 8, 10]) (by kernel_rfl) (by simp) ?_
        refine AllReadyH.cons rfl (fun K hK => ?_) ?_
        · have kc : ((w149.alloc (.cells #[.int .i64 0, .int .i64 9, .int .i64 (n : Int)] 3))).cell? ⟨w149.heap.size, y49, none⟩ = some (.int .i64 (u3 : Int)) := (K50_1.out.cell y49).trans X3.out
          go_simp
          clear kc
          refine hK.out _ _ trivial (fun hHeld51 => ?_)
          clear hK K hHeld51
          try simp only [Act.put, List.setIfInBounds_toArray, List.set_cons_zero, List.set_cons_succ]
          refine wpAnyH_ready (rs := [8, 10]) (by kernel_rfl) (by simp) ?_
          refine AllReadyH.cons rfl (fun K hK => ?_) ?_
          · go_simp
            have R52 := Lib.hid (rdA (o := (.cells #[.int .i64 0, .int .i64 ((n : Int) + 1)] 3)) R50.out)
            have B52 : Hid (Below w.heap.size w ((w149.alloc (.cells #[.int .i64 0, .int .i64 9, .int .i64 (n : Int)] 3)).alloc (.cells #[.int .i64 0, .int .i64 ((n : Int) + 1)] 3))) := Lib.hid (below_new' B50.out _)
            have K52_1 := Lib.hid (Blk.alloc K50_1.out (.cells #[.int .i64 0, .int .i64 ((n : Int) + 1)] 3))
            have K52_8 : Hid (Blk ((w149.alloc (.cells #[.int .i64 0, .int .i64 9, .int .i64 (n : Int)] 3)).alloc (.cells #[.int .i64 0, .int .i64 ((n : Int) + 1)] 3)) (w149.heap.size + 1) 3 #[.int .i64 0, .int .i64 ((n : Int) + 1)]) := Lib.hid (by simpa using Blk.new (w149.alloc (.cells #[.int .i64 0, .int .i64 9, .int .i64 (n : Int)] 3)) 3 #[.int .i64 0, .int .i64 ((n : Int) + 1)])
            have N52_8 : Hid (w149.heap.size + 1 ≠ w.heap.size) := Lib.hid (by have := R50.out.lt; (try simp at this); omega)
            refine hK.out _ _ trivial (fun hHeld52 => ?_)
            clear hK K hHeld52
            try simp only [Act.put, List.setIfInBounds_toArray, List.set_cons_zero, List.set_cons_succ]
            refine wpAnyH_ready (rs := [10]) (by kernel_rfl) (by simp) ?_
            refine AllReadyH.cons rfl (fun K hK => ?_) ?_
            · go_simp
              refine (pick_any w.heap.size w.heap.size 3 2 ((w149.alloc (.cells #[.int .i64 0, .int .i64 9, .int .i64 (n : Int)] 3)).alloc (.cells #[.int .i64 0, .int .i64 ((n : Int) + 1)] 3)) (by omega) (by omega) R52.out).mono ?_
              rintro e w153 ⟨y53, rfl, hy, hr, hg⟩
              have hy53 : y53 < 2 := by have := hy (by omega); omega
              have iy53 : (y53 : Int) < 2 := by omega
              have R53 := Lib.hid hr
              have B53 := Lib.hid (below_app B52.out hg (Nat.le_refl _))
              have K53_1 := Lib.hid (Blk.grown K52_1.out hg (fun e => N50_1.out (by injection e)))
              have K53_8 := Lib.hid (Blk.grown K52_8.out hg (fun e => N52_8.out (by injection e)))
              obtain ⟨u2, hu2, hux53⟩ := HTW.out y53 hy53
              have H2 := Lib.hid hu2
              have X2 := Lib.hid hux53
              clear hy hr hg hu2 hux53
              go_wp2_with fail
              refine hK.out _ _ trivial (fun hHeld53 => ?_)
              clear hK K hHeld53
              try simp only [Act.put, List.setIfInBounds_toArray, List.set_cons_zero, List.set_cons_succ]
              refine wpAnyH_take (i := 11) (v := ?_) rfl (by kernel_rfl) (by kernel_rfl) (by kernel_rfl) (fun _ _ _ h => h) (Or.inl ⟨by rfl, ?_⟩) trivial ?_
              rotate_left 1
              · intro w hSw
                clear hSw
                go_simp
                first | done | with_reducible rfl
              try simp only [Act.put, List.setIfInBounds_toArray, List.set_cons_zero, List.set_cons_succ]
              refine wpAnyH_take (i := 13) (v := ?_) rfl (by kernel_rfl) (by kernel_rfl) (by kernel_rfl) (fun _ _ _ h => h) (Or.inl ⟨by rfl, ?_⟩) trivial ?_
              rotate_left 1
              · intro w hSw
                clear hSw
                go_simp
                first | done | with_reducible rfl
              try simp only [Act.put, List.setIfInBounds_toArray, List.set_cons_zero, List.set_cons_succ]
              refine wpAnyH_ready (rs := [12]) (by kernel_rfl) (by simp) ?_
              refine AllReadyH.cons rfl (fun K hK => ?_) ?_
              · have kc : (w153).cell? ⟨w149.heap.size + 1, y53, none⟩ = some (.int .i64 (u2 : Int)) := (K53_8.out.cell y53).trans X2.out
                go_simp
                clear kc
                refine hK.out _ _ trivial (fun hHeld54 => ?_)
                clear hK K hHeld54
                try simp only [Act.put, List.setIfInBounds_toArray, List.set_cons_zero, List.set_cons_succ]
                refine wpAnyH_ready (rs := [14]) (by kernel_rfl) (by simp) ?_
                refine AllReadyH.cons rfl (fun K hK => ?_) ?_
                · go_simp
                  refine hK.out _ _ trivial (fun hHeld55 => ?_)
                  clear hK K hHeld55
                  try simp only [Act.put, List.setIfInBounds_toArray, List.set_cons_zero, List.set_cons_succ]
                  refine wpAnyH_done (by kernel_rfl) ?_ _
                  go_wp2_with fail
                  go_ret2
                  exact ⟨u3, u2, rfl, H3.out, H2.out, B53.out⟩
                exact AllReadyH.nil
              exact AllReadyH.nil
            exact AllReadyH.nil
          refine AllReadyH.cons rfl (fun K hK => ?_) ?_
          · go_simp
            refine (pick_any w.heap.size w.heap.size 3 2 (w149.alloc (.cells #[.int .i64 0, .int .i64 9, .int .i64 (n : Int)] 3)) (by omega) (by omega) R50.out).mono ?_
            rintro e w156 ⟨y56, rfl, hy, hr, hg⟩
            have hy56 : y56 < 2 := by have := hy (by omega); omega
            have iy56 : (y56 : Int) < 2 := by omega
            have R56 := Lib.hid hr
            have B56 := Lib.hid (below_app B50.out hg (Nat.le_refl _))
            have K56_1 := Lib.hid (Blk.grown K50_1.out hg (fun e => N50_1.out (by injection e)))
            obtain ⟨u2, hu2, hux56⟩ := HTW.out y56 hy56
            have H2 := Lib.hid hu2
            have X2 := Lib.hid hux56
            clear hy hr hg hu2 hux56
            go_wp2_with fail
            refine hK.out _ _ trivial (fun hHeld56 => ?_)
            clear hK K hHeld56
            try simp only [Act.put, List.setIfInBounds_toArray, List.set_cons_zero, List.set_cons_succ]
            refine wpAnyH_take (i := 13) (v := ?_) rfl (by kernel_rfl) (by kernel_rfl) (by kernel_rfl) (fun _ _ _ h => h) (Or.inl ⟨by rfl, ?_⟩) trivial ?_
            rotate_left 1
            · intro w hSw
              clear hSw
              go_simp
              first | done | with_reducible rfl
            try simp only [Act.put, List.setIfInBounds_toArray, List.set_cons_zero, List.set_cons_succ]
            refine wpAnyH_ready (rs := [8]) (by kernel_rfl) (by simp) ?_
            refine AllReadyH.cons rfl (fun K hK => ?_) ?_
            · go_simp
              have R57 := Lib.hid (rdA (o := (.cells #[.int .i64 0, .int .i64 ((n : Int) + 1)] 3)) R56.out)
              have B57 : Hid (Below w.heap.size w (w156.alloc (.cells #[.int .i64 0, .int .i64 ((n : Int) + 1)] 3))) := Lib.hid (below_new' B56.out _)
              have K57_1 := Lib.hid (Blk.alloc K56_1.out (.cells #[.int .i64 0, .int .i64 ((n : Int) + 1)] 3))
              have K57_8 : Hid (Blk (w156.alloc (.cells #[.int .i64 0, .int .i64 ((n : Int) + 1)] 3)) (w156.heap.size) 3 #[.int .i64 0, .int .i64 ((n : Int) + 1)]) := Lib.hid (by simpa using Blk.new w156 3 #[.int .i64 0, .int .i64 ((n : Int) + 1)])
              have N57_8 : Hid (w156.heap.size ≠ w.heap.size) := Lib.hid (by have := R56.out.lt; (try simp at this); omega)
              refine hK.out _ _ trivial (fun hHeld57 => ?_)
              clear hK K hHeld57
              try simp only [Act.put, List.setIfInBounds_toArray, List.set_cons_zero, List.set_cons_succ]
              refine wpAnyH_take (i := 11) (v := ?_) rfl (by kernel_rfl) (by kernel_rfl) (by kernel_rfl) (fun _ _ _ h => h) (Or.inl ⟨by rfl, ?_⟩) trivial ?_
              rotate_left 1
              · intro w hSw
                clear hSw
                go_simp
                first | done | with_reducible rfl
              try simp only [Act.put, List.setIfInBounds_toArray, List.set_cons_zero, List.set_cons_succ]
              refine wpAnyH_ready (rs := [12]) (by kernel_rfl) (by simp) ?_
              refine AllReadyH.cons rfl (fun K hK => ?_) ?_
              · have kc : ((w156.alloc (.cells #[.int .i64 0, .int .i64 ((n : Int) + 1)] 3))).cell? ⟨w156.heap.size, y56, none⟩ = some (.int .i64 (u2 : Int)) := (K57_8.out.cell y56).trans X2.out
                go_simp
                clear kc
                refine hK.out _ _ trivial (fun hHeld58 => ?_)
                clear hK K hHeld58
                try simp only [Act.put, List.setIfInBounds_toArray, List.set_cons_zero, List.set_cons_succ]
                refine wpAnyH_ready (rs := [14]) (by kernel_rfl) (by simp) ?_
                refine AllReadyH.cons rfl (fun K hK => ?_) ?_
                · go_simp
                  refine hK.out _ _ trivial (fun hHeld59 => ?_)
                  clear hK K hHeld59
                  try simp only [Act.put, List.setIfInBounds_toArray, List.set_cons_zero, List.set_cons_succ]
                  refine wpAnyH_done (by kernel_rfl) ?_ _
                  go_wp2_with fail
                  go_ret2
                  exact ⟨u3, u2, rfl, H3.out, H2.out, B57.out⟩
                exact AllReadyH.nil
              exact AllReadyH.nil
            exact AllReadyH.nil
          exact AllReadyH.nil
        refine AllReadyH.cons rfl (fun K hK => ?_) ?_
        · go_simp
          have R60 := Lib.hid (rdA (o := (.cells #[.int .i64 0, .int .i64 ((n : Int) + 1)] 3)) R50.out)
          have B60 : Hid (Below w.heap.size w ((w149.alloc (.cells #[.int .i64 0, .int .i64 9, .int .i64 (n : Int)] 3)).alloc (.cells #[.int .i64 0, .int .i64 ((n : Int) + 1)] 3))) := Lib.hid (below_new' B50.out _)
          have K60_1 := Lib.hid (Blk.alloc K50_1.out (.cells #[.int .i64 0, .int .i64 ((n : Int) + 1)] 3))
          have K60_8 : Hid (Blk ((w149.alloc (.cells #[.int .i64 0, .int .i64 9, .int .i64 (n : Int)] 3)).alloc (.cells #[.int .i64 0, .int .i64 ((n : Int) + 1)] 3)) (w149.heap.size + 1) 3 #[.int .i64 0, .int .i64 ((n : Int) + 1)]) := Lib.hid (by simpa using Blk.new (w149.alloc (.cells #[.int .i64 0, .int .i64 9, .int .i64 (n : Int)] 3)) 3 #[.int .i64 0, .int .i64 ((n : Int) + 1)])
          have N60_8 : Hid (w149.heap.size + 1 ≠ w.heap.size) := Lib.hid (by have := R50.out.lt; (try simp at this); omega)
          refine hK.out _ _ trivial (fun hHeld60 => ?_)
          clear hK K hHeld60
          try simp only [Act.put, List.setIfInBounds_toArray, List.set_cons_zero, List.set_cons_succ]
          refine wpAnyH_ready (rs := [5, 10]) (by kernel_rfl) (by simp) ?_
          refine AllReadyH.cons rfl (fun K hK => ?_) ?_
          · have kc : (((w149.alloc (.cells #[.int .i64 0, .int .i64 9, .int .i64 (n : Int)] 3)).alloc (.cells #[.int .i64 0, .int .i64 ((n : Int) + 1)] 3))).cell? ⟨w149.heap.size, y49, none⟩ = some (.int .i64 (u3 : Int)) := (K60_1.out.cell y49).trans X3.out
            go_simp
            clear kc
            refine hK.out _ _ trivial (fun hHeld61 => ?_)
            clear hK K hHeld61
            try simp only [Act.put, List.setIfInBounds_toArray, List.set_cons_zero, List.set_cons_succ]
            refine wpAnyH_ready (rs := [10]) (by kernel_rfl) (by simp) ?_
            refine AllReadyH.cons rfl (fun K hK => ?_) ?_
            · go_simp
              refine (pick_any w.heap.size w.heap.size 3 2 ((w149.alloc (.cells #[.int .i64 0, .int .i64 9, .int .i64 (n : Int)] 3)).alloc (.cells #[.int .i64 0, .int .i64 ((n : Int) + 1)] 3)) (by omega) (by omega) R60.out).mono ?_
              rintro e w162 ⟨y62, rfl, hy, hr, hg⟩
              have hy62 : y62 < 2 := by have := hy (by omega); omega
              have iy62 : (y62 : Int) < 2 := by omega
              have R62 := Lib.hid hr
              have B62 := Lib.hid (below_app B60.out hg (Nat.le_refl _))
              have K62_1 := Lib.hid (Blk.grown K60_1.out hg (fun e => N50_1.out (by injection e)))
              have K62_8 := Lib.hid (Blk.grown K60_8.out hg (fun e => N60_8.out (by injection e)))
              obtain ⟨u2, hu2, hux62⟩ := HTW.out y62 hy62
              have H2 := Lib.hid hu2
              have X2 := Lib.hid hux62
              clear hy hr hg hu2 hux62
              go_wp2_with fail
              refine hK.out _ _ trivial (fun hHeld62 => ?_)
              clear hK K hHeld62
              try simp only [Act.put, List.setIfInBounds_toArray, List.set_cons_zero, List.set_cons_succ]
              refine wpAnyH_take (i := 11) (v := ?_) rfl (by kernel_rfl) (by kernel_rfl) (by kernel_rfl) (fun _ _ _ h => h) (Or.inl ⟨by rfl, ?_⟩) trivial ?_
              rotate_left 1
              · intro w hSw
                clear hSw
                go_simp
                first | done | with_reducible rfl
              try simp only [Act.put, List.setIfInBounds_toArray, List.set_cons_zero, List.set_cons_succ]
              refine wpAnyH_take (i := 13) (v := ?_) rfl (by kernel_rfl) (by kernel_rfl) (by kernel_rfl) (fun _ _ _ h => h) (Or.inl ⟨by rfl, ?_⟩) trivial ?_
              rotate_left 1
              · intro w hSw
                clear hSw
                go_simp
                first | done | with_reducible rfl
              try simp only [Act.put, List.setIfInBounds_toArray, List.set_cons_zero, List.set_cons_succ]
              refine wpAnyH_ready (rs := [12]) (by kernel_rfl) (by simp) ?_
              refine AllReadyH.cons rfl (fun K hK => ?_) ?_
              · have kc : (w162).cell? ⟨w149.heap.size + 1, y62, none⟩ = some (.int .i64 (u2 : Int)) := (K62_8.out.cell y62).trans X2.out
                go_simp
                clear kc
                refine hK.out _ _ trivial (fun hHeld63 => ?_)
                clear hK K hHeld63
                try simp only [Act.put, List.setIfInBounds_toArray, List.set_cons_zero, List.set_cons_succ]
                refine wpAnyH_ready (rs := [14]) (by kernel_rfl) (by simp) ?_
                refine AllReadyH.cons rfl (fun K hK => ?_) ?_
                · go_simp
                  refine hK.out _ _ trivial (fun hHeld64 => ?_)
                  clear hK K hHeld64
                  try simp only [Act.put, List.setIfInBounds_toArray, List.set_cons_zero, List.set_cons_succ]
                  refine wpAnyH_done (by kernel_rfl) ?_ _
                  go_wp2_with fail
                  go_ret2
                  exact ⟨u3, u2, rfl, H3.out, H2.out, B62.out⟩
                exact AllReadyH.nil
              exact AllReadyH.nil
            exact AllReadyH.nil
          refine AllReadyH.cons rfl (fun K hK => ?_) ?_
          · go_simp
            refine (pick_any w.heap.size w.heap.size 3 2 ((w149.alloc (.cells #[.int .i64 0, .int .i64 9, .int .i64 (n : Int)] 3)).alloc (.cells #[.int .i64 0, .int .i64 ((n : Int) + 1)] 3)) (by omega) (by omega) R60.out).mono ?_
            rintro e w165 ⟨y65, rfl, hy, hr, hg⟩
            have hy65 : y65 < 2 := by have := hy (by omega); omega
            have iy65 : (y65 : Int) < 2 := by omega
            have R65 := Lib.hid hr
            have B65 := Lib.hid (below_app B60.out hg (Nat.le_refl _))
            have K65_1 := Lib.hid (Blk.grown K60_1.out hg (fun e => N50_1.out (by injection e)))
            have K65_8 := Lib.hid (Blk.grown K60_8.out hg (fun e => N60_8.out (by injection e)))
            obtain ⟨u2, hu2, hux65⟩ := HTW.out y65 hy65
            have H2 := Lib.hid hu2
            have X2 := Lib.hid hux65
            clear hy hr hg hu2 hux65
            go_wp2_with fail
            refine hK.out _ _ trivial (fun hHeld65 => ?_)
            clear hK K hHeld65
            try simp only [Act.put, List.setIfInBounds_toArray, List.set_cons_zero, List.set_cons_succ]
            refine wpAnyH_take (i := 11) (v := ?_) rfl (by kernel_rfl) (by kernel_rfl) (by kernel_rfl) (fun _ _ _ h => h) (Or.inl ⟨by rfl, ?_⟩) trivial ?_
            rotate_left 1
            · intro w hSw
              clear hSw
              go_simp
              first | done | with_reducible rfl
            try simp only [Act.put, List.setIfInBounds_toArray, List.set_cons_zero, List.set_cons_succ]
            refine wpAnyH_ready (rs := [5, 12]) (by kernel_rfl) (by simp) ?_
            refine AllReadyH.cons rfl (fun K hK => ?_) ?_
            · have kc : (w165).cell? ⟨w149.heap.size, y49, none⟩ = some (.int .i64 (u3 : Int)) := (K65_1.out.cell y49).trans X3.out
              go_simp
              clear kc
              refine hK.out _ _ trivial (fun hHeld66 => ?_)
              clear hK K hHeld66
              try simp only [Act.put, List.setIfInBounds_toArray, List.set_cons_zero, List.set_cons_succ]
              refine wpAnyH_take (i := 13) (v := ?_) rfl (by kernel_rfl) (by kernel_rfl) (by kernel_rfl) (fun _ _ _ h => h) (Or.inl ⟨by rfl, ?_⟩) trivial ?_
              rotate_left 1
              · intro w hSw
                clear hSw
                go_simp
                first | done | with_reducible rfl
              try simp only [Act.put, List.setIfInBounds_toArray, List.set_cons_zero, List.set_cons_succ]
              refine wpAnyH_ready (rs := [12]) (by kernel_rfl) (by simp) ?_
              refine AllReadyH.cons rfl (fun K hK => ?_) ?_
              · have kc : (w165).cell? ⟨w149.heap.size + 1, y65, none⟩ = some (.int .i64 (u2 : Int)) := (K65_8.out.cell y65).trans X2.out
                go_simp
                clear kc
                refine hK.out _ _ trivial (fun hHeld67 => ?_)
                clear hK K hHeld67
                try simp only [Act.put, List.setIfInBounds_toArray, List.set_cons_zero, List.set_cons_succ]
                refine wpAnyH_ready (rs := [14]) (by kernel_rfl) (by simp) ?_
                refine AllReadyH.cons rfl (fun K hK => ?_) ?_
                · go_simp
                  refine hK.out _ _ trivial (fun hHeld68 => ?_)
                  clear hK K hHeld68
                  try simp only [Act.put, List.setIfInBounds_toArray, List.set_cons_zero, List.set_cons_succ]
                  refine wpAnyH_done (by kernel_rfl) ?_ _
                  go_wp2_with fail
                  go_ret2
                  exact ⟨u3, u2, rfl, H3.out, H2.out, B65.out⟩
                exact AllReadyH.nil
              exact AllReadyH.nil
            refine AllReadyH.cons rfl (fun K hK => ?_) ?_
            · have kc : (w165).cell? ⟨w149.heap.size + 1, y65, none⟩ = some (.int .i64 (u2 : Int)) := (K65_8.out.cell y65).trans X2.out
              go_simp
              clear kc
              refine hK.out _ _ trivial (fun hHeld69 => ?_)
              clear hK K hHeld69
              try simp only [Act.put, List.setIfInBounds_toArray, List.set_cons_zero, List.set_cons_succ]
              refine wpAnyH_ready (rs := [5]) (by kernel_rfl) (by simp) ?_
              refine AllReadyH.cons rfl (fun K hK => ?_) ?_
              · have kc : (w165).cell? ⟨w149.heap.size, y49, none⟩ = some (.int .i64 (u3 : Int)) := (K65_1.out.cell y49).trans X3.out
                go_simp
                clear kc
                refine hK.out _ _ trivial (fun hHeld70 => ?_)
                clear hK K hHeld70
                try simp only [Act.put, List.setIfInBounds_toArray, List.set_cons_zero, List.set_cons_succ]
                refine wpAnyH_take (i := 13) (v := ?_) rfl (by kernel_rfl) (by kernel_rfl) (by kernel_rfl) (fun _ _ _ h => h) (Or.inl ⟨by rfl, ?_⟩) trivial ?_
                rotate_left 1
                · intro w hSw
                  clear hSw
                  go_simp
                  first | done | with_reducible rfl
                try simp only [Act.put, List.setIfInBounds_toArray, List.set_cons_zero, List.set_cons_succ]
                refine wpAnyH_ready (rs := [14]) (by kernel_rfl) (by simp) ?_
                refine AllReadyH.cons rfl (fun K hK => ?_) ?_
                · go_simp
                  refine hK.out _ _ trivial (fun hHeld71 => ?_)
                  clear hK K hHeld71
                  try simp only [Act.put, List.setIfInBounds_toArray, List.set_cons_zero, List.set_cons_succ]
                  refine wpAnyH_done (by kernel_rfl) ?_ _
                  go_wp2_with fail
                  go_ret2
                  exact ⟨u3, u2, rfl, H3.out, H2.out, B65.out⟩
                exact AllReadyH.nil
              exact AllReadyH.nil
            exact AllReadyH.nil
          exact AllReadyH.nil
        refine AllReadyH.cons rfl (fun K hK => ?_) ?_
        · go_simp
          refine (pick_any w.heap.size w.heap.size 3 2 (w149.alloc (.cells #[.int .i64 0, .int .i64 9, .int .i64 (n : Int)] 3)) (by omega) (by omega) R50.out).mono ?_
          rintro e w172 ⟨y72, rfl, hy, hr, hg⟩
          have hy72 : y72 < 2 := by have := hy (by omega); omega
          have iy72 : (y72 : Int) < 2 := by omega
          have R72 := Lib.hid hr
          have B72 := Lib.hid (below_app B50.out hg (Nat.le_refl _))
          have K72_1 := Lib.hid (Blk.grown K50_1.out hg (fun e => N50_1.out (by injection e)))
          obtain ⟨u2, hu2, hux72⟩ := HTW.out y72 hy72
          have H2 := Lib.hid hu2
          have X2 := Lib.hid hux72
          clear hy hr hg hu2 hux72
          go_wp2_with fail
          refine hK.out _ _ trivial (fun hHeld72 => ?_)
          clear hK K hHeld72
          try simp only [Act.put, List.setIfInBounds_toArray, List.set_cons_zero, List.set_cons_succ]
          refine wpAnyH_ready (rs := [5, 8]) (by kernel_rfl) (by simp) ?_
          refine AllReadyH.cons rfl (fun K hK => ?_) ?_
          · have kc : (w172).cell? ⟨w149.heap.size, y49, none⟩ = some (.int .i64 (u3 : Int)) := (K72_1.out.cell y49).trans X3.out
            go_simp
            clear kc
            refine hK.out _ _ trivial (fun hHeld73 => ?_)
            clear hK K hHeld73
            try simp only [Act.put, List.setIfInBounds_toArray, List.set_cons_zero, List.set_cons_succ]
            refine wpAnyH_take (i := 13) (v := ?_) rfl (by kernel_rfl) (by kernel_rfl) (by kernel_rfl) (fun _ _ _ h => h) (Or.inl ⟨by rfl, ?_⟩) trivial ?_
            rotate_left 1
            · intro w hSw
              clear hSw
              go_simp
              first | done | with_reducible rfl
            try simp only [Act.put, List.setIfInBounds_toArray, List.set_cons_zero, List.set_cons_succ]
            refine wpAnyH_ready (rs := [8]) (by kernel_rfl) (by simp) ?_
            refine AllReadyH.cons rfl (fun K hK => ?_) ?_
            · go_simp
              have R74 := Lib.hid (rdA (o := (.cells #[.int .i64 0, .int .i64 ((n : Int) + 1)] 3)) R72.out)
              have B74 : Hid (Below w.heap.size w (w172.alloc (.cells #[.int .i64 0, .int .i64 ((n : Int) + 1)] 3))) := Lib.hid (below_new' B72.out _)
              have K74_1 := Lib.hid (Blk.alloc K72_1.out (.cells #[.int .i64 0, .int .i64 ((n : Int) + 1)] 3))
              have K74_8 : Hid (Blk (w172.alloc (.cells #[.int .i64 0, .int .i64 ((n : Int) + 1)] 3)) (w172.heap.size) 3 #[.int .i64 0, .int .i64 ((n : Int) + 1)]) := Lib.hid (by simpa using Blk.new w172 3 #[.int .i64 0, .int .i64 ((n : Int) + 1)])
              have N74_8 : Hid (w172.heap.size ≠ w.heap.size) := Lib.hid (by have := R72.out.lt; (try simp at this); omega)
              refine hK.out _ _ trivial (fun hHeld74 => ?_)
              clear hK K hHeld74
              try simp only [Act.put, List.setIfInBounds_toArray, List.set_cons_zero, List.set_cons_succ]
              refine wpAnyH_take (i := 11) (v := ?_) rfl (by kernel_rfl) (by kernel_rfl) (by kernel_rfl) (fun _ _ _ h => h) (Or.inl ⟨by rfl, ?_⟩) trivial ?_
              rotate_left 1
              · intro w hSw
                clear hSw
                go_simp
                first | done | with_reducible rfl
              try simp only [Act.put, List.setIfInBounds_toArray, List.set_cons_zero, List.set_cons_succ]
              refine wpAnyH_ready (rs := [12]) (by kernel_rfl) (by simp) ?_
              refine AllReadyH.cons rfl (fun K hK => ?_) ?_
              · have kc : ((w172.alloc (.cells #[.int .i64 0, .int .i64 ((n : Int) + 1)] 3))).cell? ⟨w172.heap.size, y72, none⟩ = some (.int .i64 (u2 : Int)) := (K74_8.out.cell y72).trans X2.out
                go_simp
                clear kc
                refine hK.out _ _ trivial (fun hHeld75 => ?_)
                clear hK K hHeld75
                try simp only [Act.put, List.setIfInBounds_toArray, List.set_cons_zero, List.set_cons_succ]
                refine wpAnyH_ready (rs := [14]) (by kernel_rfl) (by simp) ?_
                refine AllReadyH.cons rfl (fun K hK => ?_) ?_
                · go_simp
                  refine hK.out _ _ trivial (fun hHeld76 => ?_)
                  clear hK K hHeld76
                  try simp only [Act.put, List.setIfInBounds_toArray, List.set_cons_zero, List.set_cons_succ]
                  refine wpAnyH_done (by kernel_rfl) ?_ _
                  go_wp2_with fail
                  go_ret2
                  exact ⟨u3, u2, rfl, H3.out, H2.out, B74.out⟩
                exact AllReadyH.nil
              exact AllReadyH.nil
            exact AllReadyH.nil
          refine AllReadyH.cons rfl (fun K hK => ?_) ?_
          · go_simp
            have R77 := Lib.hid (rdA (o := (.cells #[.int .i64 0, .int .i64 ((n : Int) + 1)] 3)) R72.out)
            have B77 : Hid (Below w.heap.size w (w172.alloc (.cells #[.int .i64 0, .int .i64 ((n : Int) + 1)] 3))) := Lib.hid (below_new' B72.out _)
            have K77_1 := Lib.hid (Blk.alloc K72_1.out (.cells #[.int .i64 0, .int .i64 ((n : Int) + 1)] 3))
            have K77_8 : Hid (Blk (w172.alloc (.cells #[.int .i64 0, .int .i64 ((n : Int) + 1)] 3)) (w172.heap.size) 3 #[.int .i64 0, .int .i64 ((n : Int) + 1)]) := Lib.hid (by simpa using Blk.new w172 3 #[.int .i64 0, .int .i64 ((n : Int) + 1)])
            have N77_8 : Hid (w172.heap.size ≠ w.heap.size) := Lib.hid (by have := R72.out.lt; (try simp at this); omega)
            refine hK.out _ _ trivial (fun hHeld77 => ?_)
            clear hK K hHeld77
            try simp only [Act.put, List.setIfInBounds_toArray, List.set_cons_zero, List.set_cons_succ]
            refine wpAnyH_take (i := 11) (v := ?_) rfl (by kernel_rfl) (by kernel_rfl) (by kernel_rfl) (fun _ _ _ h => h) (Or.inl ⟨by rfl, ?_⟩) trivial ?_
            rotate_left 1
            · intro w hSw
              clear hSw
              go_simp
              first | done | with_reducible rfl
            try simp only [Act.put, List.setIfInBounds_toArray, List.set_cons_zero, List.set_cons_succ]
            refine wpAnyH_ready (rs := [5, 12]) (by kernel_rfl) (by simp) ?_
            refine AllReadyH.cons rfl (fun K hK => ?_) ?_
            · have kc : ((w172.alloc (.cells #[.int .i64 0, .int .i64 ((n : Int) + 1)] 3))).cell? ⟨w149.heap.size, y49, none⟩ = some (.int .i64 (u3 : Int)) := (K77_1.out.cell y49).trans X3.out
              go_simp
              clear kc
              refine hK.out _ _ trivial (fun hHeld78 => ?_)
              clear hK K hHeld78
              try simp only [Act.put, List.setIfInBounds_toArray, List.set_cons_zero, List.set_cons_succ]
              refine wpAnyH_take (i := 13) (v := ?_) rfl (by kernel_rfl) (by kernel_rfl) (by kernel_rfl) (fun _ _ _ h => h) (Or.inl ⟨by rfl, ?_⟩) trivial ?_
              rotate_left 1
              · intro w hSw
                clear hSw
                go_simp
                first | done | with_reducible rfl
              try simp only [Act.put, List.setIfInBounds_toArray, List.set_cons_zero, List.set_cons_succ]
              refine wpAnyH_ready (rs := [12]) (by kernel_rfl) (by simp) ?_
              refine AllReadyH.cons rfl (fun K hK => ?_) ?_
              · have kc : ((w172.alloc (.cells #[.int .i64 0, .int .i64 ((n : Int) + 1)] 3))).cell? ⟨w172.heap.size, y72, none⟩ = some (.int .i64 (u2 : Int)) := (K77_8.out.cell y72).trans X2.out
                go_simp
                clear kc
                refine hK.out _ _ trivial (fun hHeld79 => ?_)
                clear hK K hHeld79
                try simp only [Act.put, List.setIfInBounds_toArray, List.set_cons_zero, List.set_cons_succ]
                refine wpAnyH_ready (rs := [14]) (by kernel_rfl) (by simp) ?_
                refine AllReadyH.cons rfl (fun K hK => ?_) ?_
                · go_simp
                  refine hK.out _ _ trivial (fun hHeld80 => ?_)
                  clear hK K hHeld80
                  try simp only [Act.put, List.setIfInBounds_toArray, List.set_cons_zero, List.set_cons_succ]
                  refine wpAnyH_done (by kernel_rfl) ?_ _
                  go_wp2_with fail
                  go_ret2
                  exact ⟨u3, u2, rfl, H3.out, H2.out, B77.out⟩
                exact AllReadyH.nil
              exact AllReadyH.nil
            refine AllReadyH.cons rfl (fun K hK => ?_) ?_
            · have kc : ((w172.alloc (.cells #[.int .i64 0, .int .i64 ((n : Int) + 1)] 3))).cell? ⟨w172.heap.size, y72, none⟩ = some (.int .i64 (u2 : Int)) := (K77_8.out.cell y72).trans X2.out
              go_simp
              clear kc
              refine hK.out _ _ trivial (fun hHeld81 => ?_)
              clear hK K hHeld81
              try simp only [Act.put, List.setIfInBounds_toArray, List.set_cons_zero, List.set_cons_succ]
              refine wpAnyH_ready (rs := [5]) (by kernel_rfl) (by simp) ?_
              refine AllReadyH.cons rfl (fun K hK => ?_) ?_
              · have kc : ((w172.alloc (.cells #[.int .i64 0, .int .i64 ((n : Int) + 1)] 3))).cell? ⟨w149.heap.size, y49, none⟩ = some (.int .i64 (u3 : Int)) := (K77_1.out.cell y49).trans X3.out
                go_simp
                clear kc
                refine hK.out _ _ trivial (fun hHeld82 => ?_)
                clear hK K hHeld82
                try simp only [Act.put, List.setIfInBounds_toArray, List.set_cons_zero, List.set_cons_succ]
                refine wpAnyH_take (i := 13) (v := ?_) rfl (by kernel_rfl) (by kernel_rfl) (by kernel_rfl) (fun _ _ _ h => h) (Or.inl ⟨by rfl, ?_⟩) trivial ?_
                rotate_left 1
                · intro w hSw
                  clear hSw
                  go_simp
                  first | done | with_reducible rfl
                try simp only [Act.put, List.setIfInBounds_toArray, List.set_cons_zero, List.set_cons_succ]
                refine wpAnyH_ready (rs := [14]) (by kernel_rfl) (by simp) ?_
                refine AllReadyH.cons rfl (fun K hK => ?_) ?_
                · go_simp
                  refine hK.out _ _ trivial (fun hHeld83 => ?_)
                  clear hK K hHeld83
                  try simp only [Act.put, List.setIfInBounds_toArray, List.set_cons_zero, List.set_cons_succ]
                  refine wpAnyH_done (by kernel_rfl) ?_ _
                  go_wp2_with fail
                  go_ret2
                  exact ⟨u3, u2, rfl, H3.out, H2.out, B77.out⟩
                exact AllReadyH.nil
              exact AllReadyH.nil
            exact AllReadyH.nil
          exact AllReadyH.nil
        exact AllReadyH.nil
      refine AllReadyH.cons rfl (fun K hK => ?_) ?_
      · go_simp
        have R84 := Lib.hid (rdA (o := (.cells #[.int .i64 0, .int .i64 ((n : Int) + 1)] 3)) R49.out)
        have B84 : Hid (Below w.heap.size w (w149.alloc (.cells #[.int .i64 0, .int .i64 ((n : Int) + 1)] 3))) := Lib.hid (below_new' B49.out _)
        have K84_8 : Hid (Blk (w149.alloc (.cells #[.int .i64 0, .int .i64 ((n : Int) + 1)] 3)) (w149.heap.size) 3 #[.int .i64 0, .int .i64 ((n : Int) + 1)]) := Lib.hid (by simpa using Blk.new w149 3 #[.int .i64 0, .int .i64 ((n : Int) + 1)])
        have N84_8 : Hid (w149.heap.size ≠ w.heap.size) := Lib.hid (by have := R49.out.lt; (try simp at this); omega)
        refine hK.out _ _ trivial (fun hHeld84 => ?_)
        clear hK K hHeld84
        try simp only [Act.put, List.setIfInBounds_toArray, List.set_cons_zero, List.set_cons_succ]
        refine wpAnyH_ready (rs := [1, 10]) (by kernel_rfl) (by simp) ?_
        refine AllReadyH.cons rfl (fun K hK => ?_) ?_
        · go_simp
          have R85 := Lib.hid (rdA (o := (.cells #[.int .i64 0, .int .i64 9, .int .i64 (n : Int)] 3)) R84.out)
          have B85 : Hid (Below w.heap.size w ((w149.alloc (.cells #[.int .i64 0, .int .i64 ((n : Int) + 1)] 3)).alloc (.cells #[.int .i64 0, .int .i64 9, .int .i64 (n : Int)] 3))) := Lib.hid (below_new' B84.out _)
          have K85_8 := Lib.hid (Blk.alloc K84_8.out (.cells #[.int .i64 0, .int .i64 9, .int .i64 (n : Int)] 3))
          have K85_1 : Hid (Blk ((w149.alloc (.cells #[.int .i64 0, .int .i64 ((n : Int) + 1)] 3)).alloc (.cells #[.int .i64 0, .int .i64 9, .int .i64 (n : Int)] 3)) (w149.heap.size + 1) 3 #[.int .i64 0, .int .i64 9, .int .i64 (n : Int)]) := Lib.hid (by simpa using Blk.new (w149.alloc (.cells #[.int .i64 0, .int .i64 ((n : Int) + 1)] 3)) 3 #[.int .i64 0, .int .i64 9, .int .i64 (n : Int)])
          have N85_1 : Hid (w149.heap.size + 1 ≠ w.heap.size) := Lib.hid (by have := R84.out.lt; (try simp at this); omega)
          refine hK.out _ _ trivial (fun hHeld85 => ?_)
          clear hK K hHeld85
          try simp only [Act.put, List.setIfInBounds_toArray, List.set_cons_zero, List.set_cons_succ]
          refine wpAnyH_take (i := 4) (v := ?_) rfl (by kernel_rfl) (by kernel_rfl) (by kernel_rfl) (fun _ _ _ h => h) (Or.inl ⟨by rfl, ?_⟩) trivial ?_
          rotate_left 1
          · intro w hSw
            clear hSw
            go_simp
            first | done | with_reducible rfl
          try simp only [Act.put, List.setIfInBounds_toArray, List.set_cons_zero, List.set_cons_succ]
          refine wpAnyH_ready (rs := [5, 10]) (by kernel_rfl) (by simp) ?_
          refine AllReadyH.cons rfl (fun K hK => ?_) ?_
          · have kc : (((w149.alloc (.cells #[.int .i64 0, .int .i64 ((n : Int) + 1)] 3)).alloc (.cells #[.int .i64 0, .int .i64 9, .int .i64 (n : Int)] 3))).cell? ⟨w149.heap.size + 1, y49, none⟩ = some (.int .i64 (u3 : Int)) := (K85_1.out.cell y49).trans X3.out
            go_simp
            clear kc
            refine hK.out _ _ trivial (fun hHeld86 => ?_)
            clear hK K hHeld86
            try simp only [Act.put, List.setIfInBounds_toArray, List.set_cons_zero, List.set_cons_succ]
            refine wpAnyH_ready (rs := [10]) (by kernel_rfl) (by simp) ?_
            refine AllReadyH.cons rfl (fun K hK => ?_) ?_
            · go_simp
              refine (pick_any w.heap.size w.heap.size 3 2 ((w149.alloc (.cells #[.int .i64 0, .int .i64 ((n : Int) + 1)] 3)).alloc (.cells #[.int .i64 0, .int .i64 9, .int .i64 (n : Int)] 3)) (by omega) (by omega) R85.out).mono ?_
              rintro e w187 ⟨y87, rfl, hy, hr, hg⟩
              have hy87 : y87 < 2 := by have := hy (by omega); omega
              have iy87 : (y87 : Int) < 2 := by omega
              have R87 := Lib.hid hr
              have B87 := Lib.hid (below_app B85.out hg (Nat.le_refl _))
              have K87_8 := Lib.hid (Blk.grown K85_8.out hg (fun e => N84_8.out (by injection e)))
              have K87_1 := Lib.hid (Blk.grown K85_1.out hg (fun e => N85_1.out (by injection e)))
              obtain ⟨u2, hu2, hux87⟩ := HTW.out y87 hy87
              have H2 := Lib.hid hu2
              have X2 := Lib.hid hux87
              clear hy hr hg hu2 hux87
              go_wp2_with fail
              refine hK.out _ _ trivial (fun hHeld87 => ?_)
              clear hK K hHeld87
              try simp only [Act.put, List.setIfInBounds_toArray, List.set_cons_zero, List.set_cons_succ]
              refine wpAnyH_take (i := 11) (v := ?_) rfl (by kernel_rfl) (by kernel_rfl) (by kernel_rfl) (fun _ _ _ h => h) (Or.inl ⟨by rfl, ?_⟩) trivial ?_
              rotate_left 1
              · intro w hSw
                clear hSw
                go_simp
                first | done | with_reducible rfl
              try simp only [Act.put, List.setIfInBounds_toArray, List.set_cons_zero, List.set_cons_succ]
              refine wpAnyH_take (i := 13) (v := ?_) rfl (by kernel_rfl) (by kernel_rfl) (by kernel_rfl) (fun _ _ _ h => h) (Or.inl ⟨by rfl, ?_⟩) trivial ?_
              rotate_left 1
              · intro w hSw
                clear hSw
                go_simp
                first | done | with_reducible rfl
              try simp only [Act.put, List.setIfInBounds_toArray, List.set_cons_zero, List.set_cons_succ]
              refine wpAnyH_ready (rs := [12]) (by kernel_rfl) (by simp) ?_
              refine AllReadyH.cons rfl (fun K hK => ?_) ?_
              · have kc : (w187).cell? ⟨w149.heap.size, y87, none⟩ = some (.int .i64 (u2 : Int)) := (K87_8.out.cell y87).trans X2.out
                go_simp
                clear kc
                refine hK.out _ _ trivial (fun hHeld88 => ?_)
                clear hK K hHeld88
                try simp only [Act.put, List.setIfInBounds_toArray, List.set_cons_zero, List.set_cons_succ]
                refine wpAnyH_ready (rs := [14]) (by kernel_rfl) (by simp) ?_
                refine AllReadyH.cons rfl (fun K hK => ?_) ?_
                · go_simp
                  refine hK.out _ _ trivial (fun hHeld89 => ?_)
                  clear hK K hHeld89
                  try simp only [Act.put, List.setIfInBounds_toArray, List.set_cons_zero, List.set_cons_succ]
                  refine wpAnyH_done (by kernel_rfl) ?_ _
                  go_wp2_with fail
                  go_ret2
                  exact ⟨u3, u2, rfl, H3.out, H2.out, B87.out⟩
                exact AllReadyH.nil
              exact AllReadyH.nil
            exact AllReadyH.nil
          refine AllReadyH.cons rfl (fun K hK => ?_) ?_
          · go_simp
            refine (pick_any w.heap.size w.heap.size 3 2 ((w149.alloc (.cells #[.int .i64 0, .int .i64 ((n : Int) + 1)] 3)).alloc (.cells #[.int .i64 0, .int .i64 9, .int .i64 (n : Int)] 3)) (by omega) (by omega) R85.out).mono ?_
            rintro e w190 ⟨y90, rfl, hy, hr, hg⟩
            have hy90 : y90 < 2 := by have := hy (by omega); omega
            have iy90 : (y90 : Int) < 2 := by omega
            have R90 := Lib.hid hr
            have B90 := Lib.hid (below_app B85.out hg (Nat.le_refl _))
            have K90_8 := Lib.hid (Blk.grown K85_8.out hg (fun e => N84_8.out (by injection e)))
            have K90_1 := Lib.hid (Blk.grown K85_1.out hg (fun e => N85_1.out (by injection e)))
            obtain ⟨u2, hu2, hux90⟩ := HTW.out y90 hy90
            have H2 := Lib.hid hu2
            have X2 := Lib.hid hux90
            clear hy hr hg hu2 hux90
            go_wp2_with fail
            refine hK.out _ _ trivial (fun hHeld90 => ?_)
            clear hK K hHeld90
            try simp only [Act.put, List.setIfInBounds_toArray, List.set_cons_zero, List.set_cons_succ]
            refine wpAnyH_take (i := 11) (v := ?_) rfl (by kernel_rfl) (by kernel_rfl) (by kernel_rfl) (fun _ _ _ h => h) (Or.inl ⟨by rfl, ?_⟩) trivial ?_
            rotate_left 1
            · intro w hSw
              clear hSw
              go_simp
              first | done | with_reducible rfl
            try simp only [Act.put, List.setIfInBounds_toArray, List.set_cons_zero, List.set_cons_succ]
            refine wpAnyH_ready (rs := [5, 12]) (by kernel_rfl) (by simp) ?_
            refine AllReadyH.cons rfl (fun K hK => ?_) ?_
            · have kc : (w190).cell? ⟨w149.heap.size + 1, y49, none⟩ = some (.int .i64 (u3 : Int)) := (K90_1.out.cell y49).trans X3.out
              go_simp
              clear kc
              refine hK.out _ _ trivial (fun hHeld91 => ?_)
              clear hK K hHeld91
              try simp only [Act.put, List.setIfInBounds_toArray, List.set_cons_zero, List.set_cons_succ]
              refine wpAnyH_take (i := 13) (v := ?_) rfl (by kernel_rfl) (by kernel_rfl) (by kernel_rfl) (fun _ _ _ h => h) (Or.inl ⟨by rfl, ?_⟩) trivial ?_
              rotate_left 1
              · intro w hSw
                clear hSw
                go_simp
                first | done | with_reducible rfl
              try simp only [Act.put, List.setIfInBounds_toArray, List.set_cons_zero, List.set_cons_succ]
              refine wpAnyH_ready (rs := [12]) (by kernel_rfl) (by simp) ?_
              refine AllReadyH.cons rfl (fun K hK => ?_) ?_
              · have kc : (w190).cell? ⟨w149.heap.size, y90, none⟩ = some (.int .i64 (u2 : Int)) := (K90_8.out.cell y90).trans X2.out
                go_simp
                clear kc
                refine hK.out _ _ trivial (fun hHeld92 => ?_)
                clear hK K hHeld92
                try simp only [Act.put, List.setIfInBounds_toArray, List.set_cons_zero, List.set_cons_succ]
                refine wpAnyH_ready (rs := [14]) (by kernel_rfl) (by simp) ?_
                refine AllReadyH.cons rfl (fun K hK => ?_) ?_
                · go_simp
                  refine hK.out _ _ trivial (fun hHeld93 => ?_)
                  clear hK K hHeld93
                  try simp only [Act.put, List.setIfInBounds_toArray, List.set_cons_zero, List.set_cons_succ]
                  refine wpAnyH_done (by kernel_rfl) ?_ _
                  go_wp2_with fail
                  go_ret2
                  exact ⟨u3, u2, rfl, H3.out, H2.out, B90.out⟩
                exact AllReadyH.nil
              exact AllReadyH.nil
            refine AllReadyH.cons rfl (fun K hK => ?_) ?_
            · have kc : (w190).cell? ⟨w149.heap.size, y90, none⟩ = some (.int .i64 (u2 : Int)) := (K90_8.out.cell y90).trans X2.out
              go_simp
              clear kc
              refine hK.out _ _ trivial (fun hHeld94 => ?_)
              clear hK K hHeld94
              try simp only [Act.put, List.setIfInBounds_toArray, List.set_cons_zero, List.set_cons_succ]
              refine wpAnyH_ready (rs := [5]) (by kernel_rfl) (by simp) ?_
              refine AllReadyH.cons rfl (fun K hK => ?_) ?_
              · have kc : (w190).cell? ⟨w149.heap.size + 1, y49, none⟩ = some (.int .i64 (u3 : Int)) := (K90_1.out.cell y49).trans X3.out
                go_simp
                clear kc
                refine hK.out _ _ trivial (fun hHeld95 => ?_)
                clear hK K hHeld95
                try simp only [Act.put, List.setIfInBounds_toArray, List.set_cons_zero, List.set_cons_succ]
                refine wpAnyH_take (i := 13) (v := ?_) rfl (by kernel_rfl) (by kernel_rfl) (by kernel_rfl) (fun _ _ _ h => h) (Or.inl ⟨by rfl, ?_⟩) trivial ?_
                rotate_left 1
                · intro w hSw
                  clear hSw
                  go_simp
                  first | done | with_reducible rfl
                try simp only [Act.put, List.setIfInBounds_toArray, List.set_cons_zero, List.set_cons_succ]
                refine wpAnyH_ready (rs := [14]) (by kernel_rfl) (by simp) ?_
                refine AllReadyH.cons rfl (fun K hK => ?_) ?_
                · go_simp
                  refine hK.out _ _ trivial (fun hHeld96 => ?_)
                  clear hK K hHeld96
                  try simp only [Act.put, List.setIfInBounds_toArray, List.set_cons_zero, List.set_cons_succ]
                  refine wpAnyH_done (by kernel_rfl) ?_ _
                  go_wp2_with fail
                  go_ret2
                  exact ⟨u3, u2, rfl, H3.out, H2.out, B90.out⟩
                exact AllReadyH.nil
              exact AllReadyH.nil
            exact AllReadyH.nil
          exact AllReadyH.nil
        refine AllReadyH.cons rfl (fun K hK => ?_) ?_
        · go_simp
          refine (pick_any w.heap.size w.heap.size 3 2 (w149.alloc (.cells #[.int .i64 0, .int .i64 ((n : Int) + 1)] 3)) (by omega) (by omega) R84.out).mono ?_
          rintro e w197 ⟨y97, rfl, hy, hr, hg⟩
          have hy97 : y97 < 2 := by have := hy (by omega); omega
          have iy97 : (y97 : Int) < 2 := by omega
          have R97 := Lib.hid hr
          have B97 := Lib.hid (below_app B84.out hg (Nat.le_refl _))
          have K97_8 := Lib.hid (Blk.grown K84_8.out hg (fun e => N84_8.out (by injection e)))
          obtain ⟨u2, hu2, hux97⟩ := HTW.out y97 hy97
          have H2 := Lib.hid hu2
          have X2 := Lib.hid hux97
          clear hy hr hg hu2 hux97
          go_wp2_with fail
          refine hK.out _ _ trivial (fun hHeld97 => ?_)
          clear hK K hHeld97
          try simp only [Act.put, List.setIfInBounds_toArray, List.set_cons_zero, List.set_cons_succ]
          refine wpAnyH_take (i := 11) (v := ?_) rfl (by kernel_rfl) (by kernel_rfl) (by kernel_rfl) (fun _ _ _ h => h) (Or.inl ⟨by rfl, ?_⟩) trivial ?_
          rotate_left 1
          · intro w hSw
            clear hSw
            go_simp
            first | done | with_reducible rfl
          try simp only [Act.put, List.setIfInBounds_toArray, List.set_cons_zero, List.set_cons_succ]
          refine wpAnyH_ready (rs := [1, 12]) (by kernel_rfl) (by simp) ?_
          refine AllReadyH.cons rfl (fun K hK => ?_) ?_
          · go_simp
            have R98 := Lib.hid (rdA (o := (.cells #[.int .i64 0, .int .i64 9, .int .i64 (n : Int)] 3)) R97.out)
            have B98 : Hid (Below w.heap.size w (w197.alloc (.cells #[.int .i64 0, .int .i64 9, .int .i64 (n : Int)] 3))) := Lib.hid (below_new' B97.out _)
            have K98_8 := Lib.hid (Blk.alloc K97_8.out (.cells #[.int .i64 0, .int .i64 9, .int .i64 (n : Int)] 3))
            have K98_1 : Hid (Blk (w197.alloc (.cells #[.int .i64 0, .int .i64 9, .int .i64 (n : Int)] 3)) (w197.heap.size) 3 #[.int .i64 0, .int .i64 9, .int .i64 (n : Int)]) := Lib.hid (by simpa using Blk.new w197 3 #[.int .i64 0, .int .i64 9, .int .i64 (n : Int)])
            have N98_1 : Hid (w197.heap.size ≠ w.heap.size) := Lib.hid (by have := R97.out.lt; (try simp at this); omega)
            refine hK.out _ _ trivial (fun hHeld98 => ?_)
            clear hK K hHeld98
            try simp only [Act.put, List.setIfInBounds_toArray, List.set_cons_zero, List.set_cons_succ]
            refine wpAnyH_take (i := 4) (v := ?_) rfl (by kernel_rfl) (by kernel_rfl) (by kernel_rfl) (fun _ _ _ h => h) (Or.inl ⟨by rfl, ?_⟩) trivial ?_
            rotate_left 1
            · intro w hSw
              clear hSw
              go_simp
              first | done | with_reducible rfl
            try simp only [Act.put, List.setIfInBounds_toArray, List.set_cons_zero, List.set_cons_succ]
            refine wpAnyH_ready (rs := [5, 12]) (by kernel_rfl) (by simp) ?_
            refine AllReadyH.cons rfl (fun K hK => ?_) ?_
            · have kc : ((w197.alloc (.cells #[.int .i64 0, .int .i64 9, .int .i64 (n : Int)] 3))).cell? ⟨w197.heap.size, y49, none⟩ = some (.int .i64 (u3 : Int)) := (K98_1.out.cell y49).trans X3.out
              go_simp
              clear kc
              refine hK.out _ _ trivial (fun hHeld99 => ?_)
              clear hK K hHeld99
              try simp only [Act.put, List.setIfInBounds_toArray, List.set_cons_zero, List.set_cons_succ]
              refine wpAnyH_take (i := 13) (v := ?_) rfl (by kernel_rfl) (by kernel_rfl) (by kernel_rfl) (fun _ _ _ h => h) (Or.inl ⟨by rfl, ?_⟩) trivial ?_
              rotate_left 1
              · intro w hSw
                clear hSw
                go_simp
                first | done | with_reducible rfl
              try simp only [Act.put, List.setIfInBounds_toArray, List.set_cons_zero, List.set_cons_succ]
              refine wpAnyH_ready (rs := [12]) (by kernel_rfl) (by simp) ?_
              refine AllReadyH.cons rfl (fun K hK => ?_) ?_
              · have kc : ((w197.alloc (.cells #[.int .i64 0, .int .i64 9, .int .i64 (n : Int)] 3))).cell? ⟨w149.heap.size, y97, none⟩ = some (.int .i64 (u2 : Int)) := (K98_8.out.cell y97).trans X2.out
                go_simp
                clear kc
                refine hK.out _ _ trivial (fun hHeld100 => ?_)
                clear hK K hHeld100
                try simp only [Act.put, List.setIfInBounds_toArray, List.set_cons_zero, List.set_cons_succ]
                refine wpAnyH_ready (rs := [14]) (by kernel_rfl) (by simp) ?_
                refine AllReadyH.cons rfl (fun K hK => ?_) ?_
                · go_simp
                  refine hK.out _ _ trivial (fun hHeld101 => ?_)
                  clear hK K hHeld101
                  try simp only [Act.put, List.setIfInBounds_toArray, List.set_cons_zero, List.set_cons_succ]
                  refine wpAnyH_done (by kernel_rfl) ?_ _
                  go_wp2_with fail
                  go_ret2
                  exact ⟨u3, u2, rfl, H3.out, H2.out, B98.out⟩
                exact AllReadyH.nil
              exact AllReadyH.nil
            refine AllReadyH.cons rfl (fun K hK => ?_) ?_
            · have kc : ((w197.alloc (.cells #[.int .i64 0, .int .i64 9, .int .i64 (n : Int)] 3))).cell? ⟨w149.heap.size, y97, none⟩ = some (.int .i64 (u2 : Int)) := (K98_8.out.cell y97).trans X2.out
              go_simp
              clear kc
              refine hK.out _ _ trivial (fun hHeld102 => ?_)
              clear hK K hHeld102
              try simp only [Act.put, List.setIfInBounds_toArray, List.set_cons_zero, List.set_cons_succ]
              refine wpAnyH_ready (rs := [5]) (by kernel_rfl) (by simp) ?_
              refine AllReadyH.cons rfl (fun K hK => ?_) ?_
              · have kc : ((w197.alloc (.cells #[.int .i64 0, .int .i64 9, .int .i64 (n : Int)] 3))).cell? ⟨w197.heap.size, y49, none⟩ = some (.int .i64 (u3 : Int)) := (K98_1.out.cell y49).trans X3.out
                go_simp
                clear kc
                refine hK.out _ _ trivial (fun hHeld103 => ?_)
                clear hK K hHeld103
                try simp only [Act.put, List.setIfInBounds_toArray, List.set_cons_zero, List.set_cons_succ]
                refine wpAnyH_take (i := 13) (v := ?_) rfl (by kernel_rfl) (by kernel_rfl) (by kernel_rfl) (fun _ _ _ h => h) (Or.inl ⟨by rfl, ?_⟩) trivial ?_
                rotate_left 1
                · intro w hSw
                  clear hSw
                  go_simp
                  first | done | with_reducible rfl
                try simp only [Act.put, List.setIfInBounds_toArray, List.set_cons_zero, List.set_cons_succ]
                refine wpAnyH_ready (rs := [14]) (by kernel_rfl) (by simp) ?_
                refine AllReadyH.cons rfl (fun K hK => ?_) ?_
                · go_simp
                  refine hK.out _ _ trivial (fun hHeld104 => ?_)
                  clear hK K hHeld104
                  try simp only [Act.put, List.setIfInBounds_toArray, List.set_cons_zero, List.set_cons_succ]
                  refine wpAnyH_done (by kernel_rfl) ?_ _
                  go_wp2_with fail
                  go_ret2
                  exact ⟨u3, u2, rfl, H3.out, H2.out, B98.out⟩
                exact AllReadyH.nil
              exact AllReadyH.nil
            exact AllReadyH.nil
          refine AllReadyH.cons rfl (fun K hK => ?_) ?_
          · have kc : (w197).cell? ⟨w149.heap.size, y97, none⟩ = some (.int .i64 (u2 : Int)) := (K97_8.out.cell y97).trans X2.out
            go_simp
            clear kc
            refine hK.out _ _ trivial (fun hHeld105 => ?_)
            clear hK K hHeld105
            try simp only [Act.put, List.setIfInBounds_toArray, List.set_cons_zero, List.set_cons_succ]
            refine wpAnyH_ready (rs := [1]) (by kernel_rfl) (by simp) ?_
            refine AllReadyH.cons rfl (fun K hK => ?_) ?_
            · go_simp
              have R106 := Lib.hid (rdA (o := (.cells #[.int .i64 0, .int .i64 9, .int .i64 (n : Int)] 3)) R97.out)
              have B106 : Hid (Below w.heap.size w (w197.alloc (.cells #[.int .i64 0, .int .i64 9, .int .i64 (n : Int)] 3))) := Lib.hid (below_new' B97.out _)
              have K106_8 := Lib.hid (Blk.alloc K97_8.out (.cells #[.int .i64 0, .int .i64 9, .int .i64 (n : Int)] 3))
              have K106_1 : Hid (Blk (w197.alloc (.cells #[.int .i64 0, .int .i64 9, .int .i64 (n : Int)] 3)) (w197.heap.size) 3 #[.int .i64 0, .int .i64 9, .int .i64 (n : Int)]) := Lib.hid (by simpa using Blk.new w197 3 #[.int .i64 0, .int .i64 9, .int .i64 (n : Int)])
              have N106_1 : Hid (w197.heap.size ≠ w.heap.size) := Lib.hid (by have := R97.out.lt; (try simp at this); omega)
              refine hK.out _ _ trivial (fun hHeld106 => ?_)
              clear hK K hHeld106
              try simp only [Act.put, List.setIfInBounds_toArray, List.set_cons_zero, List.set_cons_succ]
              refine wpAnyH_take (i := 4) (v := ?_) rfl (by kernel_rfl) (by kernel_rfl) (by kernel_rfl) (fun _ _ _ h => h) (Or.inl ⟨by rfl, ?_⟩) trivial ?_
              rotate_left 1
              · intro w hSw
                clear hSw
                go_simp
                first | done | with_reducible rfl
              try simp only [Act.put, List.setIfInBounds_toArray, List.set_cons_zero, List.set_cons_succ]
              refine wpAnyH_ready (rs := [5]) (by kernel_rfl) (by simp) ?_
              refine AllReadyH.cons rfl (fun K hK => ?_) ?_
              · have kc : ((w197.alloc (.cells #[.int .i64 0, .int .i64 9, .int .i64 (n : Int)] 3))).cell? ⟨w197.heap.size, y49, none⟩ = some (.int .i64 (u3 : Int)) := (K106_1.out.cell y49).trans X3.out
                go_simp
                clear kc
                refine hK.out _ _ trivial (fun hHeld107 => ?_)
                clear hK K hHeld107
                try simp only [Act.put, List.setIfInBounds_toArray, List.set_cons_zero, List.set_cons_succ]
                refine wpAnyH_take (i := 13) (v := ?_) rfl (by kernel_rfl) (by kernel_rfl) (by kernel_rfl) (fun _ _ _ h => h) (Or.inl ⟨by rfl, ?_⟩) trivial ?_
                rotate_left 1
                · intro w hSw
                  clear hSw
                  go_simp
                  first | done | with_reducible rfl
                try simp only [Act.put, List.setIfInBounds_toArray, List.set_cons_zero, List.set_cons_succ]
                refine wpAnyH_ready (rs := [14]) (by kernel_rfl) (by simp) ?_
                refine AllReadyH.cons rfl (fun K hK => ?_) ?_
                · go_simp
                  refine hK.out _ _ trivial (fun hHeld108 => ?_)
                  clear hK K hHeld108
                  try simp only [Act.put, List.setIfInBounds_toArray, List.set_cons_zero, List.set_cons_succ]
                  refine wpAnyH_done (by kernel_rfl) ?_ _
                  go_wp2_with fail
                  go_ret2
                  exact ⟨u3, u2, rfl, H3.out, H2.out, B106.out⟩
                exact AllReadyH.nil
              exact AllReadyH.nil
            exact AllReadyH.nil
          exact AllReadyH.nil
        exact AllReadyH.nil
      refine AllReadyH.cons rfl (fun K hK => ?_) ?_
      · go_simp
        refine (pick_any w.heap.size w.heap.size 3 2 w149 (by omega) (by omega) R49.out).mono ?_
        rintro e w209 ⟨y109, rfl, hy, hr, hg⟩
        have hy109 : y109 < 2 := by have := hy (by omega); omega
        have iy109 : (y109 : Int) < 2 := by omega
        have R109 := Lib.hid hr
        have B109 := Lib.hid (below_app B49.out hg (Nat.le_refl _))
        obtain ⟨u2, hu2, hux109⟩ := HTW.out y109 hy109
        have H2 := Lib.hid hu2
        have X2 := Lib.hid hux109
        clear hy hr hg hu2 hux109
        go_wp2_with fail
        refine hK.out _ _ trivial (fun hHeld109 => ?_)
        clear hK K hHeld109
        try simp only [Act.put, List.setIfInBounds_toArray, List.set_cons_zero, List.set_cons_succ]
        refine wpAnyH_ready (rs := [1, 8]) (by kernel_rfl) (by simp) ?_
        refine AllReadyH.cons rfl (fun K hK => ?_) ?_
        · go_simp
          have R110 := Lib.hid (rdA (o := (.cells #[.int .i64 0, .int .i64 9, .int .i64 (n : Int)] 3)) R109.out)
          have B110 : Hid (Below w.heap.size w (w209.alloc (.cells #[.int .i64 0, .int .i64 9, .int .i64 (n : Int)] 3))) := Lib.hid (below_new' B109.out _)
          have K110_1 : Hid (Blk (w209.alloc (.cells #[.int .i64 0, .int .i64 9, .int .i64 (n : Int)] 3)) (w209.heap.size) 3 #[.int .i64 0, .int .i64 9, .int .i64 (n : Int)]) := Lib.hid (by simpa using Blk.new w209 3 #[.int .i64 0, .int .i64 9, .int .i64 (n : Int)])
          have N110_1 : Hid (w209.heap.size ≠ w.heap.size) := Lib.hid (by have := R109.out.lt; (try simp at this); omega)
          refine hK.out _ _ trivial (fun hHeld110 => ?_)
          clear hK K hHeld110
          try simp only [Act.put, List.setIfInBounds_toArray, List.set_cons_zero, List.set_cons_succ]
          refine wpAnyH_take (i := 4) (v := ?_) rfl (by kernel_rfl) (by kernel_rfl) (by kernel_rfl) (fun _ _ _ h => h) (Or.inl ⟨by rfl, ?_⟩) trivial ?_
          rotate_left 1
          · intro w hSw
            clear hSw
            go_simp
            first | done | with_reducible rfl
          try simp only [Act.put, List.setIfInBounds_toArray, List.set_cons_zero, List.set_cons_succ]
          refine wpAnyH_ready (rs := [5, 8]) (by kernel_rfl) (by simp) ?_
          refine AllReadyH.cons rfl (fun K hK => ?_) ?_
          · have kc : ((w209.alloc (.cells #[.int .i64 0, .int .i64 9, .int .i64 (n : Int)] 3))).cell? ⟨w209.heap.size, y49, none⟩ = some (.int .i64 (u3 : Int)) := (K110_1.out.cell y49).trans X3.out
            go_simp
            clear kc
            refine hK.out _ _ trivial (fun hHeld111 => ?_)
            clear hK K hHeld111
            try simp only [Act.put, List.setIfInBounds_toArray, List.set_cons_zero, List.set_cons_succ]
            refine wpAnyH_take (i := 13) (v := ?_) rfl (by kernel_rfl) (by kernel_rfl) (by kernel_rfl) (fun _ _ _ h => h) (Or.inl ⟨by rfl, ?_⟩) trivial ?_
            rotate_left 1
            · intro w hSw
              clear hSw
              go_simp
              first | done | with_reducible rfl
            try simp only [Act.put, List.setIfInBounds_toArray, List.set_cons_zero, List.set_cons_succ]
            refine wpAnyH_ready (rs := [8]) (by kernel_rfl) (by simp) ?_
            refine AllReadyH.cons rfl (fun K hK => ?_) ?_
            · go_simp
              have R112 := Lib.hid (rdA (o := (.cells #[.int .i64 0, .int .i64 ((n : Int) + 1)] 3)) R110.out)
              have B112 : Hid (Below w.heap.size w ((w209.alloc (.cells #[.int .i64 0, .int .i64 9, .int .i64 (n : Int)] 3)).alloc (.cells #[.int .i64 0, .int .i64 ((n : Int) + 1)] 3))) := Lib.hid (below_new' B110.out _)
              have K112_1 := Lib.hid (Blk.alloc K110_1.out (.cells #[.int .i64 0, .int .i64 ((n : Int) + 1)] 3))
              have K112_8 : Hid (Blk ((w209.alloc (.cells #[.int .i64 0, .int .i64 9, .int .i64 (n : Int)] 3)).alloc (.cells #[.int .i64 0, .int .i64 ((n : Int) + 1)] 3)) (w209.heap.size + 1) 3 #[.int .i64 0, .int .i64 ((n : Int) + 1)]) := Lib.hid (by simpa using Blk.new (w209.alloc (.cells #[.int .i64 0, .int .i64 9, .int .i64 (n : Int)] 3)) 3 #[.int .i64 0, .int .i64 ((n : Int) + 1)])
              have N112_8 : Hid (w209.heap.size + 1 ≠ w.heap.size) := Lib.hid (by have := R110.out.lt; (try simp at this); omega)
              refine hK.out _ _ trivial (fun hHeld112 => ?_)
              clear hK K hHeld112
              try simp only [Act.put, List.setIfInBounds_toArray, List.set_cons_zero, List.set_cons_succ]
              refine wpAnyH_take (i := 11) (v := ?_) rfl (by kernel_rfl) (by kernel_rfl) (by kernel_rfl) (fun _ _ _ h => h) (Or.inl ⟨by rfl, ?_⟩) trivial ?_
              rotate_left 1
              · intro w hSw
                clear hSw
                go_simp
                first | done | with_reducible rfl
              try simp only [Act.put, List.setIfInBounds_toArray, List.set_cons_zero, List.set_cons_succ]
              refine wpAnyH_ready (rs := [12]) (by kernel_rfl) (by simp) ?_
              refine AllReadyH.cons rfl (fun K hK => ?_) ?_
              · have kc : (((w209.alloc (.cells #[.int .i64 0, .int .i64 9, .int .i64 (n : Int)] 3)).alloc (.cells #[.int .i64 0, .int .i64 ((n : Int) + 1)] 3))).cell? ⟨w209.heap.size + 1, y109, none⟩ = some (.int .i64 (u2 : Int)) := (K112_8.out.cell y109).trans X2.out
                go_simp
                clear kc
                refine hK.out _ _ trivial (fun hHeld113 => ?_)
                clear hK K hHeld113
                try simp only [Act.put, List.setIfInBounds_toArray, List.set_cons_zero, List.set_cons_succ]
                refine wpAnyH_ready (rs := [14]) (by kernel_rfl) (by simp) ?_
                refine AllReadyH.cons rfl (fun K hK => ?_) ?_
                · go_simp
                  refine hK.out _ _ trivial (fun hHeld114 => ?_)
                  clear hK K hHeld114
                  try simp only [Act.put, List.setIfInBounds_toArray, List.set_cons_zero, List.set_cons_succ]
                  refine wpAnyH_done (by kernel_rfl) ?_ _
                  go_wp2_with fail
                  go_ret2
                  exact ⟨u3, u2, rfl, H3.out, H2.out, B112.out⟩
                exact AllReadyH.nil
              exact AllReadyH.nil
            exact AllReadyH.nil
          refine AllReadyH.cons rfl (fun K hK => ?_) ?_
          · go_simp
            have R115 := Lib.hid (rdA (o := (.cells #[.int .i64 0, .int .i64 ((n : Int) + 1)] 3)) R110.out)
            have B115 : Hid (Below w.heap.size w ((w209.alloc (.cells #[.int .i64 0, .int .i64 9, .int .i64 (n : Int)] 3)).alloc (.cells #[.int .i64 0, .int .i64 ((n : Int) + 1)] 3))) := Lib.hid (below_new' B110.out _)
            have K115_1 := Lib.hid (Blk.alloc K110_1.out (.cells #[.int .i64 0, .int .i64 ((n : Int) + 1)] 3))
            have K115_8 : Hid (Blk ((w209.alloc (.cells #[.int .i64 0, .int .i64 9, .int .i64 (n : Int)] 3)).alloc (.cells #[.int .i64 0, .int .i64 ((n : Int) + 1)] 3)) (w209.heap.size + 1) 3 #[.int .i64 0, .int .i64 ((n : Int) + 1)]) := Lib.hid (by simpa using Blk.new (w209.alloc (.cells #[.int .i64 0, .int .i64 9, .int .i64 (n : Int)] 3)) 3 #[.int .i64 0, .int .i64 ((n : Int) + 1)])
            have N115_8 : Hid (w209.heap.size + 1 ≠ w.heap.size) := Lib.hid (by have := R110.out.lt; (try simp at this); omega)
            refine hK.out _ _ trivial (fun hHeld115 => ?_)
            clear hK K hHeld115
            try simp only [Act.put, List.setIfInBounds_toArray, List.set_cons_zero, List.set_cons_succ]
            refine wpAnyH_take (i := 11) (v := ?_) rfl (by kernel_rfl) (by kernel_rfl) (by kernel_rfl) (fun _ _ _ h => h) (Or.inl ⟨by rfl, ?_⟩) trivial ?_
            rotate_left 1
            · intro w hSw
              clear hSw
              go_simp
              first | done | with_reducible rfl
            try simp only [Act.put, List.setIfInBounds_toArray, List.set_cons_zero, List.set_cons_succ]
            refine wpAnyH_ready (rs := [5, 12]) (by kernel_rfl) (by simp) ?_
            refine AllReadyH.cons rfl (fun K hK => ?_) ?_
            · have kc : (((w209.alloc (.cells #[.int .i64 0, .int .i64 9, .int .i64 (n : Int)] 3)).alloc (.cells #[.int .i64 0, .int .i64 ((n : Int) + 1)] 3))).cell? ⟨w209.heap.size, y49, none⟩ = some (.int .i64 (u3 : Int)) := (K115_1.out.cell y49).trans X3.out
              go_simp
              clear kc
              refine hK.out _ _ trivial (fun hHeld116 => ?_)
              clear hK K hHeld116
              try simp only [Act.put, List.setIfInBounds_toArray, List.set_cons_zero, List.set_cons_succ]
              refine wpAnyH_take (i := 13) (v := ?_) rfl (by kernel_rfl) (by kernel_rfl) (by kernel_rfl) (fun _ _ _ h => h) (Or.inl ⟨by rfl, ?_⟩) trivial ?_
              rotate_left 1
              · intro w hSw
                clear hSw
                go_simp
                first | done | with_reducible rfl
              try simp only [Act.put, List.setIfInBounds_toArray, List.set_cons_zero, List.set_cons_succ]
              refine wpAnyH_ready (rs := [12]) (by kernel_rfl) (by simp) ?_
              refine AllReadyH.cons rfl (fun K hK => ?_) ?_
              · have kc : (((w209.alloc (.cells #[.int .i64 0, .int .i64 9, .int .i64 (n : Int)] 3)).alloc (.cells #[.int .i64 0, .int .i64 ((n : Int) + 1)] 3))).cell? ⟨w209.heap.size + 1, y109, none⟩ = some (.int .i64 (u2 : Int)) := (K115_8.out.cell y109).trans X2.out
                go_simp
                clear kc
                refine hK.out _ _ trivial (fun hHeld117 => ?_)
                clear hK K hHeld117
                try simp only [Act.put, List.setIfInBounds_toArray, List.set_cons_zero, List.set_cons_succ]
                refine wpAnyH_ready (rs := [14]) (by kernel_rfl) (by simp) ?_
                refine AllReadyH.cons rfl (fun K hK => ?_) ?_
                · go_simp
                  refine hK.out _ _ trivial (fun hHeld118 => ?_)
                  clear hK K hHeld118
                  try simp only [Act.put, List.setIfInBounds_toArray, List.set_cons_zero, List.set_cons_succ]
                  refine wpAnyH_done (by kernel_rfl) ?_ _
                  go_wp2_with fail
                  go_ret2
                  exact ⟨u3, u2, rfl, H3.out, H2.out, B115.out⟩
                exact AllReadyH.nil
              exact AllReadyH.nil
            refine AllReadyH.cons rfl (fun K hK => ?_) ?_
            · have kc : (((w209.alloc (.cells #[.int .i64 0, .int .i64 9, .int .i64 (n : Int)] 3)).alloc (.cells #[.int .i64 0, .int .i64 ((n : Int) + 1)] 3))).cell? ⟨w209.heap.size + 1, y109, none⟩ = some (.int .i64 (u2 : Int)) := (K115_8.out.cell y109).trans X2.out
              go_simp
              clear kc
              refine hK.out _ _ trivial (fun hHeld119 => ?_)
              clear hK K hHeld119
              try simp only [Act.put, List.setIfInBounds_toArray, List.set_cons_zero, List.set_cons_succ]
              refine wpAnyH_ready (rs := [5]) (by kernel_rfl) (by simp) ?_
              refine AllReadyH.cons rfl (fun K hK => ?_) ?_
              · have kc : (((w209.alloc (.cells #[.int .i64 0, .int .i64 9, .int .i64 (n : Int)] 3)).alloc (.cells #[.int .i64 0, .int .i64 ((n : Int) + 1)] 3))).cell? ⟨w209.heap.size, y49, none⟩ = some (.int .i64 (u3 : Int)) := (K115_1.out.cell y49).trans X3.out
                go_simp
                clear kc
                refine hK.out _ _ trivial (fun hHeld120 => ?_)
                clear hK K hHeld120
                try simp only [Act.put, List.setIfInBounds_toArray, List.set_cons_zero, List.set_cons_succ]
                refine wpAnyH_take (i := 13) (v := ?_) rfl (by kernel_rfl) (by kernel_rfl) (by kernel_rfl) (fun _ _ _ h => h) (Or.inl ⟨by rfl, ?_⟩) trivial ?_
                rotate_left 1
                · intro w hSw
                  clear hSw
                  go_simp
                  first | done | with_reducible rfl
                try simp only [Act.put, List.setIfInBounds_toArray, List.set_cons_zero, List.set_cons_succ]
                refine wpAnyH_ready (rs := [14]) (by kernel_rfl) (by simp) ?_
                refine AllReadyH.cons rfl (fun K hK => ?_) ?_
                · go_simp
                  refine hK.out _ _ trivial (fun hHeld121 => ?_)
                  clear hK K hHeld121
                  try simp only [Act.put, List.setIfInBounds_toArray, List.set_cons_zero, List.set_cons_succ]
                  refine wpAnyH_done (by kernel_rfl) ?_ _
                  go_wp2_with fail
                  go_ret2
                  exact ⟨u3, u2, rfl, H3.out, H2.out, B115.out⟩
                exact AllReadyH.nil
              exact AllReadyH.nil
            exact AllReadyH.nil
          exact AllReadyH.nil
        refine AllReadyH.cons rfl (fun K hK => ?_) ?_
        · go_simp
          have R122 := Lib.hid (rdA (o := (.cells #[.int .i64 0, .int .i64 ((n : Int) + 1)] 3)) R109.out)
          have B122 : Hid (Below w.heap.size w (w209.alloc (.cells #[.int .i64 0, .int .i64 ((n : Int) + 1)] 3))) := Lib.hid (below_new' B109.out _)
          have K122_8 : Hid (Blk (w209.alloc (.cells #[.int .i64 0, .int .i64 ((n : Int) + 1)] 3)) (w209.heap.size) 3 #[.int .i64 0, .int .i64 ((n : Int) + 1)]) := Lib.hid (by simpa using Blk.new w209 3 #[.int .i64 0, .int .i64 ((n : Int) + 1)])
          have N122_8 : Hid (w209.heap.size ≠ w.heap.size) := Lib.hid (by have := R109.out.lt; (try simp at this); omega)
          refine hK.out _ _ trivial (fun hHeld122 => ?_)
          clear hK K hHeld122
          try simp only [Act.put, List.setIfInBounds_toArray, List.set_cons_zero, List.set_cons_succ]
          refine wpAnyH_take (i := 11) (v := ?_) rfl (by kernel_rfl) (by kernel_rfl) (by kernel_rfl) (fun _ _ _ h => h) (Or.inl ⟨by rfl, ?_⟩) trivial ?_
          rotate_left 1
          · intro w hSw
            clear hSw
            go_simp
            first | done | with_reducible rfl
          try simp only [Act.put, List.setIfInBounds_toArray, List.set_cons_zero, List.set_cons_succ]
          refine wpAnyH_ready (rs := [1, 12]) (by kernel_rfl) (by simp) ?_
          refine AllReadyH.cons rfl (fun K hK => ?_) ?_
          · go_simp
            have R123 := Lib.hid (rdA (o := (.cells #[.int .i64 0, .int .i64 9, .int .i64 (n : Int)] 3)) R122.out)
            have B123 : Hid (Below w.heap.size w ((w209.alloc (.cells #[.int .i64 0, .int .i64 ((n : Int) + 1)] 3)).alloc (.cells #[.int .i64 0, .int .i64 9, .int .i64 (n : Int)] 3))) := Lib.hid (below_new' B122.out _)
            have K123_8 := Lib.hid (Blk.alloc K122_8.out (.cells #[.int .i64 0, .int .i64 9, .int .i64 (n : Int)] 3))
            have K123_1 : Hid (Blk ((w209.alloc (.cells #[.int .i64 0, .int .i64 ((n : Int) + 1)] 3)).alloc (.cells #[.int .i64 0, .int .i64 9, .int .i64 (n : Int)] 3)) (w209.heap.size + 1) 3 #[.int .i64 0, .int .i64 9, .int .i64 (n : Int)]) := Lib.hid (by simpa using Blk.new (w209.alloc (.cells #[.int .i64 0, .int .i64 ((n : Int) + 1)] 3)) 3 #[.int .i64 0, .int .i64 9, .int .i64 (n : Int)])
            have N123_1 : Hid (w209.heap.size + 1 ≠ w.heap.size) := Lib.hid (by have := R122.out.lt; (try simp at this); omega)
            refine hK.out _ _ trivial (fun hHeld123 => ?_)
            clear hK K hHeld123
            try simp only [Act.put, List.setIfInBounds_toArray, List.set_cons_zero, List.set_cons_succ]
            refine wpAnyH_take (i := 4) (v := ?_) rfl (by kernel_rfl) (by kernel_rfl) (by kernel_rfl) (fun _ _ _ h => h) (Or.inl ⟨by rfl, ?_⟩) trivial ?_
            rotate_left 1
            · intro w hSw
              clear hSw
              go_simp
              first | done | with_reducible rfl
            try simp only [Act.put, List.setIfInBounds_toArray, List.set_cons_zero, List.set_cons_succ]
            refine wpAnyH_ready (rs := [5, 12]) (by kernel_rfl) (by simp) ?_
            refine AllReadyH.cons rfl (fun K hK => ?_) ?_
            · have kc : (((w209.alloc (.cells #[.int .i64 0, .int .i64 ((n : Int) + 1)] 3)).alloc (.cells #[.int .i64 0, .int .i64 9, .int .i64 (n : Int)] 3))).cell? ⟨w209.heap.size + 1, y49, none⟩ = some (.int .i64 (u3 : Int)) := (K123_1.out.cell y49).trans X3.out
              go_simp
              clear kc
              refine hK.out _ _ trivial (fun hHeld124 => ?_)
              clear hK K hHeld124
              try simp only [Act.put, List.setIfInBounds_toArray, List.set_cons_zero, List.set_cons_succ]
              refine wpAnyH_take (i := 13) (v := ?_) rfl (by kernel_rfl) (by kernel_rfl) (by kernel_rfl) (fun _ _ _ h => h) (Or.inl ⟨by rfl, ?_⟩) trivial ?_
              rotate_left 1
              · intro w hSw
                clear hSw
                go_simp
                first | done | with_reducible rfl
              try simp only [Act.put, List.setIfInBounds_toArray, List.set_cons_zero, List.set_cons_succ]
              refine wpAnyH_ready (rs := [12]) (by kernel_rfl) (by simp) ?_
              refine AllReadyH.cons rfl (fun K hK => ?_) ?_
              · have kc : (((w209.alloc (.cells #[.int .i64 0, .int .i64 ((n : Int) + 1)] 3)).alloc (.cells #[.int .i64 0, .int .i64 9, .int .i64 (n : Int)] 3))).cell? ⟨w209.heap.size, y109, none⟩ = some (.int .i64 (u2 : Int)) := (K123_8.out.cell y109).trans X2.out
                go_simp
                clear kc
                refine hK.out _ _ trivial (fun hHeld125 => ?_)
                clear hK K hHeld125
                try simp only [Act.put, List.setIfInBounds_toArray, List.set_cons_zero, List.set_cons_succ]
                refine wpAnyH_ready (rs := [14]) (by kernel_rfl) (by simp) ?_
                refine AllReadyH.cons rfl (fun K hK => ?_) ?_
                · go_simp
                  refine hK.out _ _ trivial (fun hHeld126 => ?_)
                  clear hK K hHeld126
                  try simp only [Act.put, List.setIfInBounds_toArray, List.set_cons_zero, List.set_cons_succ]
                  refine wpAnyH_done (by kernel_rfl) ?_ _
                  go_wp2_with fail
                  go_ret2
                  exact ⟨u3, u2, rfl, H3.out, H2.out, B123.out⟩
                exact AllReadyH.nil
              exact AllReadyH.nil
            refine AllReadyH.cons rfl (fun K hK => ?_) ?_
            · have kc : (((w209.alloc (.cells #[.int .i64 0, .int .i64 ((n : Int) + 1)] 3)).alloc (.cells #[.int .i64 0, .int .i64 9, .int .i64 (n : Int)] 3))).cell? ⟨w209.heap.size, y109, none⟩ = some (.int .i64 (u2 : Int)) := (K123_8.out.cell y109).trans X2.out
              go_simp
              clear kc
              refine hK.out _ _ trivial (fun hHeld127 => ?_)
              clear hK K hHeld127
              try simp only [Act.put, List.setIfInBounds_toArray, List.set_cons_zero, List.set_cons_succ]
              refine wpAnyH_ready (rs := [5]) (by kernel_rfl) (by simp) ?_
              refine AllReadyH.cons rfl (fun K hK => ?_) ?_
              · have kc : (((w209.alloc (.cells #[.int .i64 0, .int .i64 ((n : Int) + 1)] 3)).alloc (.cells #[.int .i64 0, .int .i64 9, .int .i64 (n : Int)] 3))).cell? ⟨w209.heap.size + 1, y49, none⟩ = some (.int .i64 (u3 : Int)) := (K123_1.out.cell y49).trans X3.out
                go_simp
                clear kc
                refine hK.out _ _ trivial (fun hHeld128 => ?_)
                clear hK K hHeld128
                try simp only [Act.put, List.setIfInBounds_toArray, List.set_cons_zero, List.set_cons_succ]
                refine wpAnyH_take (i := 13) (v := ?_) rfl (by kernel_rfl) (by kernel_rfl) (by kernel_rfl) (fun _ _ _ h => h) (Or.inl ⟨by rfl, ?_⟩) trivial ?_
                rotate_left 1
                · intro w hSw
                  clear hSw
                  go_simp
                  first | done | with_reducible rfl
                try simp only [Act.put, List.setIfInBounds_toArray, List.set_cons_zero, List.set_cons_succ]
                refine wpAnyH_ready (rs := [14]) (by kernel_rfl) (by simp) ?_
                refine AllReadyH.cons rfl (fun K hK => ?_) ?_
                · go_simp
                  refine hK.out _ _ trivial (fun hHeld129 => ?_)
                  clear hK K hHeld129
                  try simp only [Act.put, List.setIfInBounds_toArray, List.set_cons_zero, List.set_cons_succ]
                  refine wpAnyH_done (by kernel_rfl) ?_ _
                  go_wp2_with fail
                  go_ret2
                  exact ⟨u3, u2, rfl, H3.out, H2.out, B123.out⟩
                exact AllReadyH.nil
              exact AllReadyH.nil
            exact AllReadyH.nil
          refine AllReadyH.cons rfl (fun K hK => ?_) ?_
          · have kc : ((w209.alloc (.cells #[.int .i64 0, .int .i64 ((n : Int) + 1)] 3))).cell? ⟨w209.heap.size, y109, none⟩ = some (.int .i64 (u2 : Int)) := (K122_8.out.cell y109).trans X2.out
            go_simp
            clear kc
            refine hK.out _ _ trivial (fun hHeld130 => ?_)
            clear hK K hHeld130
            try simp only [Act.put, List.setIfInBounds_toArray, List.set_cons_zero, List.set_cons_succ]
            refine wpAnyH_ready (rs := [1]) (by kernel_rfl) (by simp) ?_
            refine AllReadyH.cons rfl (fun K hK => ?_) ?_
            · go_simp
              have R131 := Lib.hid (rdA (o := (.cells #[.int .i64 0, .int .i64 9, .int .i64 (n : Int)] 3)) R122.out)
              have B131 : Hid (Below w.heap.size w ((w209.alloc (.cells #[.int .i64 0, .int .i64 ((n : Int) + 1)] 3)).alloc (.cells #[.int .i64 0, .int .i64 9, .int .i64 (n : Int)] 3))) := Lib.hid (below_new' B122.out _)
              have K131_8 := Lib.hid (Blk.alloc K122_8.out (.cells #[.int .i64 0, .int .i64 9, .int .i64 (n : Int)] 3))
              have K131_1 : Hid (Blk ((w209.alloc (.cells #[.int .i64 0, .int .i64 ((n : Int) + 1)] 3)).alloc (.cells #[.int .i64 0, .int .i64 9, .int .i64 (n : Int)] 3)) (w209.heap.size + 1) 3 #[.int .i64 0, .int .i64 9, .int .i64 (n : Int)]) := Lib.hid (by simpa using Blk.new (w209.alloc (.cells #[.int .i64 0, .int .i64 ((n : Int) + 1)] 3)) 3 #[.int .i64 0, .int .i64 9, .int .i64 (n : Int)])
              have N131_1 : Hid (w209.heap.size + 1 ≠ w.heap.size) := Lib.hid (by have := R122.out.lt; (try simp at this); omega)
              refine hK.out _ _ trivial (fun hHeld131 => ?_)
              clear hK K hHeld131
              try simp only [Act.put, List.setIfInBounds_toArray, List.set_cons_zero, List.set_cons_succ]
              refine wpAnyH_take (i := 4) (v := ?_) rfl (by kernel_rfl) (by kernel_rfl) (by kernel_rfl) (fun _ _ _ h => h) (Or.inl ⟨by rfl, ?_⟩) trivial ?_
              rotate_left 1
              · intro w hSw
                clear hSw
                go_simp
                first | done | with_reducible rfl
              try simp only [Act.put, List.setIfInBounds_toArray, List.set_cons_zero, List.set_cons_succ]
              refine wpAnyH_ready (rs := [5]) (by kernel_rfl) (by simp) ?_
              refine AllReadyH.cons rfl (fun K hK => ?_) ?_
              · have kc : (((w209.alloc (.cells #[.int .i64 0, .int .i64 ((n : Int) + 1)] 3)).alloc (.cells #[.int .i64 0, .int .i64 9, .int .i64 (n : Int)] 3))).cell? ⟨w209.heap.size + 1, y49, none⟩ = some (.int .i64 (u3 : Int)) := (K131_1.out.cell y49).trans X3.out
                go_simp
                clear kc
                refine hK.out _ _ trivial (fun hHeld132 => ?_)
                clear hK K hHeld132
                try simp only [Act.put, List.setIfInBounds_toArray, List.set_cons_zero, List.set_cons_succ]
                refine wpAnyH_take (i := 13) (v := ?_) rfl (by kernel_rfl) (by kernel_rfl) (by kernel_rfl) (fun _ _ _ h => h) (Or.inl ⟨by rfl, ?_⟩) trivial ?_
                rotate_left 1
                · intro w hSw
                  clear hSw
                  go_simp
                  first | done | with_reducible rfl
                try simp only [Act.put, List.setIfInBounds_toArray, List.set_cons_zero, List.set_cons_succ]
                refine wpAnyH_ready (rs := [14]) (by kernel_rfl) (by simp) ?_
                refine AllReadyH.cons rfl (fun K hK => ?_) ?_
                · go_simp
                  refine hK.out _ _ trivial (fun hHeld133 => ?_)
                  clear hK K hHeld133
                  try simp only [Act.put, List.setIfInBounds_toArray, List.set_cons_zero, List.set_cons_succ]
                  refine wpAnyH_done (by kernel_rfl) ?_ _
                  go_wp2_with fail
                  go_ret2
                  exact ⟨u3, u2, rfl, H3.out, H2.out, B131.out⟩
                exact AllReadyH.nil
              exact AllReadyH.nil
            exact AllReadyH.nil
          exact AllReadyH.nil
        exact AllReadyH.nil
      exact AllReadyH.nil
    refine AllReadyH.cons rfl (fun K hK => ?_) ?_
    · go_simp
      have R134 := Lib.hid (rdA (o := (.cells #[.int .i64 0, .int .i64 ((n : Int) + 1)] 3)) R3d.out)
      have B134 : Hid (Below w.heap.size w (w3.drew.alloc (.cells #[.int .i64 0, .int .i64 ((n : Int) + 1)] 3))) := Lib.hid (below_new' B3d.out _)
      have K134_8 : Hid (Blk (w3.drew.alloc (.cells #[.int .i64 0, .int .i64 ((n : Int) + 1)] 3)) (w3.heap.size) 3 #[.int .i64 0, .int .i64 ((n : Int) + 1)]) := Lib.hid (by simpa using Blk.new w3.drew 3 #[.int .i64 0, .int .i64 ((n : Int) + 1)])
      have N134_8 : Hid (w3.heap.size ≠ w.heap.size) := Lib.hid (by have := R3d.out.lt; (try simp at this); omega)
      refine hK.out _ _ trivial (fun hHeld134 => ?_)
      clear hK K hHeld134
      try simp only [Act.put, List.setIfInBounds_toArray, List.set_cons_zero, List.set_cons_succ]
      refine wpAnyH_ready (rs := [1, 3]) (by kernel_rfl) (by simp) ?_
      refine AllReadyH.cons rfl (fun K hK => ?_) ?_
      · go_simp
        have R135 := Lib.hid (rdA (o := (.cells #[.int .i64 0, .int .i64 9, .int .i64 (n : Int)] 3)) R134.out)
        have B135 : Hid (Below w.heap.size w ((w3.drew.alloc (.cells #[.int .i64 0, .int .i64 ((n : Int) + 1)] 3)).alloc (.cells #[.int .i64 0, .int .i64 9, .int .i64 (n : Int)] 3))) := Lib.hid (below_new' B134.out _)
        have K135_8 := Lib.hid (Blk.alloc K134_8.out (.cells #[.int .i64 0, .int .i64 9, .int .i64 (n : Int)] 3))
        have K135_1 : Hid (Blk ((w3.drew.alloc (.cells #[.int .i64 0, .int .i64 ((n : Int) + 1)] 3)).alloc (.cells #[.int .i64 0, .int .i64 9, .int .i64 (n : Int)] 3)) (w3.heap.size + 1) 3 #[.int .i64 0, .int .i64 9, .int .i64 (n : Int)]) := Lib.hid (by simpa using Blk.new (w3.drew.alloc (.cells #[.int .i64 0, .int .i64 ((n : Int) + 1)] 3)) 3 #[.int .i64 0, .int .i64 9, .int .i64 (n : Int)])
        have N135_1 : Hid (w3.heap.size + 1 ≠ w.heap.size) := Lib.hid (by have := R134.out.lt; (try simp at this); omega)
        refine hK.out _ _ trivial (fun hHeld135 => ?_)
        clear hK K hHeld135
        try simp only [Act.put, List.setIfInBounds_toArray, List.set_cons_zero, List.set_cons_succ]
        refine wpAnyH_ready (rs := [3]) (by kernel_rfl) (by simp) ?_
        refine AllReadyH.cons rfl (fun K hK => ?_) ?_
        · go_simp
          refine (pick_any w.heap.size w.heap.size 2 3 ((w3.drew.alloc (.cells #[.int .i64 0, .int .i64 ((n : Int) + 1)] 3)).alloc (.cells #[.int .i64 0, .int .i64 9, .int .i64 (n : Int)] 3)) (by omega) (by omega) R135.out).mono ?_
          rintro e w236 ⟨y136, rfl, hy, hr, hg⟩
          have hy136 : y136 < 3 := by have := hy (by omega); omega
          have iy136 : (y136 : Int) < 3 := by omega
          have R136 := Lib.hid hr
          have B136 := Lib.hid (below_app B135.out hg (Nat.le_refl _))
          have K136_8 := Lib.hid (Blk.grown K135_8.out hg (fun e => N134_8.out (by injection e)))
          have K136_1 := Lib.hid (Blk.grown K135_1.out hg (fun e => N135_1.out (by injection e)))
          obtain ⟨u3, hu3, hux136⟩ := HTH.out y136 hy136
          have H3 := Lib.hid hu3
          have X3 := Lib.hid hux136
          clear hy hr hg hu3 hux136
          go_wp2_with fail
          refine hK.out _ _ trivial (fun hHeld136 => ?_)
          clear hK K hHeld136
          try simp only [Act.put, List.setIfInBounds_toArray, List.set_cons_zero, List.set_cons_succ]
          refine wpAnyH_take (i := 4) (v := ?_) rfl (by kernel_rfl) (by kernel_rfl) (by kernel_rfl) (fun _ _ _ h => h) (Or.inl ⟨by rfl, ?_⟩) trivial ?_
          rotate_left 1
          · intro w hSw
            clear hSw
            go_simp
            first | done | with_reducible rfl
          try simp only [Act.put, List.setIfInBounds_toArray, List.set_cons_zero, List.set_cons_succ]
          refine wpAnyH_ready (rs := [5, 10]) (by kernel_rfl) (by simp) ?_
          refine AllReadyH.cons rfl (fun K hK => ?_) ?_
          · have kc : (w236).cell? ⟨w3.heap.size + 1, y136, none⟩ = some (.int .i64 (u3 : Int)) := (K136_1.out.cell y136).trans X3.out
            go_simp
            clear kc
            refine hK.out _ _ trivial (fun hHeld137 => ?_)
            clear hK K hHeld137
            try simp only [Act.put, List.setIfInBounds_toArray, List.set_cons_zero, List.set_cons_succ]
            refine wpAnyH_ready (rs := [10]) (by kernel_rfl) (by simp) ?_
            refine AllReadyH.cons rfl (fun K hK => ?_) ?_
            · go_simp
              refine (pick_any w.heap.size w.heap.size 3 2 w236 (by omega) (by omega) R136.out).mono ?_
              rintro e w238 ⟨y138, rfl, hy, hr, hg⟩
              have hy138 : y138 < 2 := by have := hy (by omega); omega
              have iy138 : (y138 : Int) < 2 := by omega
              have R138 := Lib.hid hr
              have B138 := Lib.hid (below_app B136.out hg (Nat.le_refl _))
              have K138_8 := Lib.hid (Blk.grown K136_8.out hg (fun e => N134_8.out (by injection e)))
              have K138_1 := Lib.hid (Blk.grown K136_1.out hg (fun e => N135_1.out (by injection e)))
              obtain ⟨u2, hu2, hux138⟩ := HTW.out y138 hy138
              have H2 := Lib.hid hu2
              have X2 := Lib.hid hux138
              clear hy hr hg hu2 hux138
              go_wp2_with fail
              refine hK.out _ _ trivial (fun hHeld138 => ?_)
              clear hK K hHeld138
              try simp only [Act.put, List.setIfInBounds_toArray, List.set_cons_zero, List.set_cons_succ]
              refine wpAnyH_take (i := 11) (v := ?_) rfl (by kernel_rfl) (by kernel_rfl) (by kernel_rfl) (fun _ _ _ h => h) (Or.inl ⟨by rfl, ?_⟩) trivial ?_
              rotate_left 1
              · intro w hSw
                clear hSw
                go_simp
                first | done | with_reducible rfl
              try simp only [Act.put, List.setIfInBounds_toArray, List.set_cons_zero, List.set_cons_succ]
              refine wpAnyH_take (i := 13) (v := ?_) rfl (by kernel_rfl) (by kernel_rfl) (by kernel_rfl) (fun _ _ _ h => h) (Or.inl ⟨by rfl, ?_⟩) trivial ?_
              rotate_left 1
              · intro w hSw
                clear hSw
                go_simp
                first | done | with_reducible rfl
              try simp only [Act.put, List.setIfInBounds_toArray, List.set_cons_zero, List.set_cons_succ]
              refine wpAnyH_ready (rs := [12]) (by kernel_rfl) (by simp) ?_
              refine AllReadyH.cons rfl (fun K hK => ?_) ?_
              · have kc : (w238).cell? ⟨w3.heap.size, y138, none⟩ = some (.int .i64 (u2 : Int)) := (K138_8.out.cell y138).trans X2.out
                go_simp
                clear kc
                refine hK.out _ _ trivial (fun hHeld139 => ?_)
                clear hK K hHeld139
                try simp only [Act.put, List.setIfInBounds_toArray, List.set_cons_zero, List.set_cons_succ]
                refine wpAnyH_ready (rs := [14]) (by kernel_rfl) (by simp) ?_
                refine AllReadyH.cons rfl (fun K hK => ?_) ?_
                · go_simp
                  refine hK.out _ _ trivial (fun hHeld140 => ?_)
                  clear hK K hHeld140
                  try simp only [Act.put, List.setIfInBounds_toArray, List.set_cons_zero, List.set_cons_succ]
                  refine wpAnyH_done (by kernel_rfl) ?_ _
                  go_wp2_with fail
                  go_ret2
                  exact ⟨u3, u2, rfl, H3.out, H2.out, B138.out⟩
                exact AllReadyH.nil
              exact AllReadyH.nil
            exact AllReadyH.nil
          refine AllReadyH.cons rfl (fun K hK => ?_) ?_
          · go_simp
            refine (pick_any w.heap.size w.heap.size 3 2 w236 (by omega) (by omega) R136.out).mono ?_
            rintro e w241 ⟨y141, rfl, hy, hr, hg⟩
            have hy141 : y141 < 2 := by have := hy (by omega); omega
            have iy141 : (y141 : Int) < 2 := by omega
            have R141 := Lib.hid hr
            have B141 := Lib.hid (below_app B136.out hg (Nat.le_refl _))
            have K141_8 := Lib.hid (Blk.grown K136_8.out hg (fun e => N134_8.out (by injection e)))
            have K141_1 := Lib.hid (Blk.grown K136_1.out hg (fun e => N135_1.out (by injection e)))
            obtain ⟨u2, hu2, hux141⟩ := HTW.out y141 hy141
            have H2 := Lib.hid hu2
            have X2 := Lib.hid hux141
            clear hy hr hg hu2 hux141
            go_wp2_with fail
            refine hK.out _ _ trivial (fun hHeld141 => ?_)
            clear hK K hHeld141
            try simp only [Act.put, List.setIfInBounds_toArray, List.set_cons_zero, List.set_cons_succ]
            refine wpAnyH_take (i := 11) (v := ?_) rfl (by kernel_rfl) (by kernel_rfl) (by kernel_rfl) (fun _ _ _ h => h) (Or.inl ⟨by rfl, ?_⟩) trivial ?_
            rotate_left 1
            · intro w hSw
              clear hSw
              go_simp
              first | done | with_reducible rfl
            try simp only [Act.put, List.setIfInBounds_toArray, List.set_cons_zero, List.set_cons_succ]
            refine wpAnyH_ready (rs := [5, 12]) (by kernel_rfl) (by simp) ?_
            refine AllReadyH.cons rfl (fun K hK => ?_) ?_
            · have kc : (w241).cell? ⟨w3.heap.size + 1, y136, none⟩ = some (.int .i64 (u3 : Int)) := (K141_1.out.cell y136).trans X3.out
              go_simp
              clear kc
              refine hK.out _ _ trivial (fun hHeld142 => ?_)
              clear hK K hHeld142
              try simp only [Act.put, List.setIfInBounds_toArray, List.set_cons_zero, List.set_cons_succ]
              refine wpAnyH_take (i := 13) (v := ?_) rfl (by kernel_rfl) (by kernel_rfl) (by kernel_rfl) (fun _ _ _ h => h) (Or.inl ⟨by rfl, ?_⟩) trivial ?_
              rotate_left 1
              · intro w hSw
                clear hSw
                go_simp
                first | done | with_reducible rfl
              try simp only [Act.put, List.setIfInBounds_toArray, List.set_cons_zero, List.set_cons_succ]
              refine wpAnyH_ready (rs := [12]) (by kernel_rfl) (by simp) ?_
              refine AllReadyH.cons rfl (fun K hK => ?_) ?_
              · have kc : (w241).cell? ⟨w3.heap.size, y141, none⟩ = some (.int .i64 (u2 : Int)) := (K141_8.out.cell y141).trans X2.out
                go_simp
                clear kc
                refine hK.out _ _ trivial (fun hHeld143 => ?_)
                clear hK K hHeld143
                try simp only [Act.put, List.setIfInBounds_toArray, List.set_cons_zero, List.set_cons_succ]
                refine wpAnyH_ready (rs := [14]) (by kernel_rfl) (by simp) ?_
                refine AllReadyH.cons rfl (fun K hK => ?_) ?_
                · go_simp
                  refine hK.out _ _ trivial (fun hHeld144 => ?_)
                  clear hK K hHeld144
                  try simp only [Act.put, List.setIfInBounds_toArray, List.set_cons_zero, List.set_cons_succ]
                  refine wpAnyH_done (by kernel_rfl) ?_ _
                  go_wp2_with fail
                  go_ret2
                  exact ⟨u3, u2, rfl, H3.out, H2.out, B141.out⟩
                exact AllReadyH.nil
              exact AllReadyH.nil
            refine AllReadyH.cons rfl (fun K hK => ?_) ?_
            · have kc : (w241).cell? ⟨w3.heap.size, y141, none⟩ = some (.int .i64 (u2 : Int)) := (K141_8.out.cell y141).trans X2.out
              go_simp
              clear kc
              refine hK.out _ _ trivial (fun hHeld145 => ?_)
              clear hK K hHeld145
              try simp only [Act.put, List.setIfInBounds_toArray, List.set_cons_zero, List.set_cons_succ]
              refine wpAnyH_ready (rs := [5]) (by kernel_rfl) (by simp) ?_
              refine AllReadyH.cons rfl (fun K hK => ?_) ?_
              · have kc : (w241).cell? ⟨w3.heap.size + 1, y136, none⟩ = some (.int .i64 (u3 : Int)) := (K141_1.out.cell y136).trans X3.out
                go_simp
                clear kc
                refine hK.out _ _ trivial (fun hHeld146 => ?_)
                clear hK K hHeld146
                try simp only [Act.put, List.setIfInBounds_toArray, List.set_cons_zero, List.set_cons_succ]
                refine wpAnyH_take (i := 13) (v := ?_) rfl (by kernel_rfl) (by kernel_rfl) (by kernel_rfl) (fun _ _ _ h => h) (Or.inl ⟨by rfl, ?_⟩) trivial ?_
                rotate_left 1
                · intro w hSw
                  clear hSw
                  go_simp
                  first | done | with_reducible rfl
                try simp only [Act.put, List.setIfInBounds_toArray, List.set_cons_zero, List.set_cons_succ]
                refine wpAnyH_ready (rs := [14]) (by kernel_rfl) (by simp) ?_
                refine AllReadyH.cons rfl (fun K hK => ?_) ?_
                · go_simp
                  refine hK.out _ _ trivial (fun hHeld147 => ?_)
                  clear hK K hHeld147
                  try simp only [Act.put, List.setIfInBounds_toArray, List.set_cons_zero, List.set_cons_succ]
                  refine wpAnyH_done (by kernel_rfl) ?_ _
                  go_wp2_with fail
                  go_ret2
                  exact ⟨u3, u2, rfl, H3.out, H2.out, B141.out⟩
                exact AllReadyH.nil
              exact AllReadyH.nil
            exact AllReadyH.nil
          exact AllReadyH.nil
        exact AllReadyH.nil
      refine AllReadyH.cons rfl (fun K hK => ?_) ?_
      · go_simp
        refine (pick_any w.heap.size w.heap.size 2 3 (w3.drew.alloc (.cells #[.int .i64 0, .int .i64 ((n : Int) + 1)] 3)) (by omega) (by omega) R134.out).mono ?_
        rintro e w248 ⟨y148, rfl, hy, hr, hg⟩
        have hy148 : y148 < 3 := by have := hy (by omega); omega
        have iy148 : (y148 : Int) < 3 := by omega
        have R148 := Lib.hid hr
        have B148 := Lib.hid (below_app B134.out hg (Nat.le_refl _))
        have K148_8 := Lib.hid (Blk.grown K134_8.out hg (fun e => N134_8.out (by injection e)))
        obtain ⟨u3, hu3, hux148⟩ := HTH.out y148 hy148
        have H3 := Lib.hid hu3
        have X3 := Lib.hid hux148
        clear hy hr hg hu3 hux148
        go_wp2_with fail
        refine hK.out _ _ trivial (fun hHeld148 => ?_)
        clear hK K hHeld148
        try simp only [Act.put, List.setIfInBounds_toArray, List.set_cons_zero, List.set_cons_succ]
        refine wpAnyH_ready (rs := [1, 10]) (by kernel_rfl) (by simp) ?_
        refine AllReadyH.cons rfl (fun K hK => ?_) ?_
        · go_simp
          have R149 := Lib.hid (rdA (o := (.cells #[.int .i64 0, .int .i64 9, .int .i64 (n : Int)] 3)) R148.out)
          have B149 : Hid (Below w.heap.size w (w248.alloc (.cells #[.int .i64 0, .int .i64 9, .int .i64 (n : Int)] 3))) := Lib.hid (below_new' B148.out _)
          have K149_8 := Lib.hid (Blk.alloc K148_8.out (.cells #[.int .i64 0, .int .i64 9, .int .i64 (n : Int)] 3))
          have K149_1 : Hid (Blk (w248.alloc (.cells #[.int .i64 0, .int .i64 9, .int .i64 (n : Int)] 3)) (w248.heap.size) 3 #[.int .i64 0, .int .i64 9, .int .i64 (n : Int)]) := Lib.hid (by simpa using Blk.new w248 3 #[.int .i64 0, .int .i64 9, .int .i64 (n : Int)])
          have N149_1 : Hid (w248.heap.size ≠ w.heap.size) := Lib.hid (by have := R148.out.lt; (try simp at this); omega)
          refine hK.out _ _ trivial (fun hHeld149 => ?_)
          clear hK K hHeld149
          try simp only [Act.put, List.setIfInBounds_toArray, List.set_cons_zero, List.set_cons_succ]
          refine wpAnyH_take (i := 4) (v := ?_) rfl (by kernel_rfl) (by kernel_rfl) (by kernel_rfl) (fun _ _ _ h => h) (Or.inl ⟨by rfl, ?_⟩) trivial ?_
          rotate_left 1
          · intro w hSw
            clear hSw
            go_simp
            first | done | with_reducible rfl
          try simp only [Act.put, List.setIfInBounds_toArray, List.set_cons_zero, List.set_cons_succ]
          refine wpAnyH_ready (rs := [5, 10]) (by kernel_rfl) (by simp) ?_
          refine AllReadyH.cons rfl (fun K hK => ?_) ?_
          · have kc : ((w248.alloc (.cells #[.int .i64 0, .int .i64 9, .int .i64 (n : Int)] 3))).cell? ⟨w248.heap.size, y148, none⟩ = some (.int .i64 (u3 : Int)) := (K149_1.out.cell y148).trans X3.out
            go_simp
            clear kc
            refine hK.out _ _ trivial (fun hHeld150 => ?_)
            clear hK K hHeld150
            try simp only [Act.put, List.setIfInBounds_toArray, List.set_cons_zero, List.set_cons_succ]
            refine wpAnyH_ready (rs := [10]) (by kernel_rfl) (by simp) ?_
            refine AllReadyH.cons rfl (fun K hK => ?_) ?_
            · go_simp
              refine (pick_any w.heap.size w.heap.size 3 2 (w248.alloc (.cells #[.int .i64 0, .int .i64 9, .int .i64 (n : Int)] 3)) (by omega) (by omega) R149.out).mono ?_
              rintro e w251 ⟨y151, rfl, hy, hr, hg⟩
              have hy151 : y151 < 2 := by have := hy (by omega); omega
              have iy151 : (y151 : Int) < 2 := by omega
              have R151 := Lib.hid hr
              have B151 := Lib.hid (below_app B149.out hg (Nat.le_refl _))
              have K151_8 := Lib.hid (Blk.grown K149_8.out hg (fun e => N134_8.out (by injection e)))
              have K151_1 := Lib.hid (Blk.grown K149_1.out hg (fun e => N149_1.out (by injection e)))
              obtain ⟨u2, hu2, hux151⟩ := HTW.out y151 hy151
              have H2 := Lib.hid hu2
              have X2 := Lib.hid hux151
              clear hy hr hg hu2 hux151
              go_wp2_with fail
              refine hK.out _ _ trivial (fun hHeld151 => ?_)
              clear hK K hHeld151
              try simp only [Act.put, List.setIfInBounds_toArray, List.set_cons_zero, List.set_cons_succ]
              refine wpAnyH_take (i := 11) (v := ?_) rfl (by kernel_rfl) (by kernel_rfl) (by kernel_rfl) (fun _ _ _ h => h) (Or.inl ⟨by rfl, ?_⟩) trivial ?_
              rotate_left 1
              · intro w hSw
                clear hSw
                go_simp
                first | done | with_reducible rfl
              try simp only [Act.put, List.setIfInBounds_toArray, List.set_cons_zero, List.set_cons_succ]
              refine wpAnyH_take (i := 13) (v := ?_) rfl (by kernel_rfl) (by kernel_rfl) (by kernel_rfl) (fun _ _ _ h => h) (Or.inl ⟨by rfl, ?_⟩) trivial ?_
              rotate_left 1
              · intro w hSw
                clear hSw
                go_simp
                first | done | with_reducible rfl
              try simp only [Act.put, List.setIfInBounds_toArray, List.set_cons_zero, List.set_cons_succ]
              refine wpAnyH_ready (rs := [12]) (by kernel_rfl) (by simp) ?_
              refine AllReadyH.cons rfl (fun K hK => ?_) ?_
              · have kc : (w251).cell? ⟨w3.heap.size, y151, none⟩ = some (.int .i64 (u2 : Int)) := (K151_8.out.cell y151).trans X2.out
                go_simp
                clear kc
                refine hK.out _ _ trivial (fun hHeld152 => ?_)
                clear hK K hHeld152
                try simp only [Act.put, List.setIfInBounds_toArray, List.set_cons_zero, List.set_cons_succ]
                refine wpAnyH_ready (rs := [14]) (by kernel_rfl) (by simp) ?_
                refine AllReadyH.cons rfl (fun K hK => ?_) ?_
                · go_simp
                  refine hK.out _ _ trivial (fun hHeld153 => ?_)
                  clear hK K hHeld153
                  try simp only [Act.put, List.setIfInBounds_toArray, List.set_cons_zero, List.set_cons_succ]
                  refine wpAnyH_done (by kernel_rfl) ?_ _
                  go_wp2_with fail
                  go_ret2
                  exact ⟨u3, u2, rfl, H3.out, H2.out, B151.out⟩
                exact AllReadyH.nil
              exact AllReadyH.nil
            exact AllReadyH.nil
          refine AllReadyH.cons rfl (fun K hK => ?_) ?_
          · go_simp
            refine (pick_any w.heap.size w.heap.size 3 2 (w248.alloc (.cells #[.int .i64 0, .int .i64 9, .int .i64 (n : Int)] 3)) (by omega) (by omega) R149.out).mono ?_
            rintro e w254 ⟨y154, rfl, hy, hr, hg⟩
            have hy154 : y154 < 2 := by have := hy (by omega); omega
            have iy154 : (y154 : Int) < 2 := by omega
            have R154 := Lib.hid hr
            have B154 := Lib.hid (below_app B149.out hg (Nat.le_refl _))
            have K154_8 := Lib.hid (Blk.grown K149_8.out hg (fun e => N134_8.out (by injection e)))
            have K154_1 := Lib.hid (Blk.grown K149_1.out hg (fun e => N149_1.out (by injection e)))
            obtain ⟨u2, hu2, hux154⟩ := HTW.out y154 hy154
            have H2 := Lib.hid hu2
            have X2 := Lib.hid hux154
            clear hy hr hg hu2 hux154
            go_wp2_with fail
            refine hK.out _ _ trivial (fun hHeld154 => ?_)
            clear hK K hHeld154
            try simp only [Act.put, List.setIfInBounds_toArray, List.set_cons_zero, List.set_cons_succ]
            refine wpAnyH_take (i := 11) (v := ?_) rfl (by kernel_rfl) (by kernel_rfl) (by kernel_rfl) (fun _ _ _ h => h) (Or.inl ⟨by rfl, ?_⟩) trivial ?_
            rotate_left 1
            · intro w hSw
              clear hSw
              go_simp
              first | done | with_reducible rfl
            try simp only [Act.put, List.setIfInBounds_toArray, List.set_cons_zero, List.set_cons_succ]
            refine wpAnyH_ready (rs := [5, 12]) (by kernel_rfl) (by simp) ?_
            refine AllReadyH.cons rfl (fun K hK => ?_) ?_
            · have kc : (w254).cell? ⟨w248.heap.size, y148, none⟩ = some (.int .i64 (u3 : Int)) := (K154_1.out.cell y148).trans X3.out
              go_simp
              clear kc
              refine hK.out _ _ trivial (fun hHeld155 => ?_)
              clear hK K hHeld155
              try simp only [Act.put, List.setIfInBounds_toArray, List.set_cons_zero, List.set_cons_succ]
              refine wpAnyH_take (i := 13) (v := ?_) rfl (by kernel_rfl) (by kernel_rfl) (by kernel_rfl) (fun _ _ _ h => h) (Or.inl ⟨by rfl, ?_⟩) trivial ?_
              rotate_left 1
              · intro w hSw
                clear hSw
                go_simp
                first | done | with_reducible rfl
              try simp only [Act.put, List.setIfInBounds_toArray, List.set_cons_zero, List.set_cons_succ]
              refine wpAnyH_ready (rs := [12]) (by kernel_rfl) (by simp) ?_
              refine AllReadyH.cons rfl (fun K hK => ?_) ?_
              · have kc : (w254).cell? ⟨w3.heap.size, y154, none⟩ = some (.int .i64 (u2 : Int)) := (K154_8.out.cell y154).trans X2.out
                go_simp
                clear kc
                refine hK.out _ _ trivial (fun hHeld156 => ?_)
                clear hK K hHeld156
                try simp only [Act.put, List.setIfInBounds_toArray, List.set_cons_zero, List.set_cons_succ]
                refine wpAnyH_ready (rs := [14]) (by kernel_rfl) (by simp) ?_
                refine AllReadyH.cons rfl (fun K hK => ?_) ?_
                · go_simp
                  refine hK.out _ _ trivial (fun hHeld157 => ?_)
                  clear hK K hHeld157
                  try simp only [Act.put, List.setIfInBounds_toArray, List.set_cons_zero, List.set_cons_succ]
                  refine wpAnyH_done (by kernel_rfl) ?_ _
                  go_wp2_with fail
                  go_ret2
                  exact ⟨u3, u2, rfl, H3.out, H2.out, B154.out⟩
                exact AllReadyH.nil
              exact AllReadyH.nil
            refine AllReadyH.cons rfl (fun K hK => ?_) ?_
            · have kc : (w254).cell? ⟨w3.heap.size, y154, none⟩ = some (.int .i64 (u2 : Int)) := (K154_8.out.cell y154).trans X2.out
              go_simp
              clear kc
              refine hK.out _ _ trivial (fun hHeld158 => ?_)
              clear hK K hHeld158
              try simp only [Act.put, List.setIfInBounds_toArray, List.set_cons_zero, List.set_cons_succ]
              refine wpAnyH_ready (rs := [5]) (by kernel_rfl) (by simp) ?_
              refine AllReadyH.cons rfl (fun K hK => ?_) ?_
              · have kc : (w254).cell? ⟨w248.heap.size, y148, none⟩ = some (.int .i64 (u3 : Int)) := (K154_1.out.cell y148).trans X3.out
                go_simp
                clear kc
                refine hK.out _ _ trivial (fun hHeld159 => ?_)
                clear hK K hHeld159
                try simp only [Act.put, List.setIfInBounds_toArray, List.set_cons_zero, List.set_cons_succ]
                refine wpAnyH_take (i := 13) (v := ?_) rfl (by kernel_rfl) (by kernel_rfl) (by kernel_rfl) (fun _ _ _ h => h) (Or.inl ⟨by rfl, ?_⟩) trivial ?_
                rotate_left 1
                · intro w hSw
                  clear hSw
                  go_simp
                  first | done | with_reducible rfl
                try simp only [Act.put, List.setIfInBounds_toArray, List.set_cons_zero, List.set_cons_succ]
                refine wpAnyH_ready (rs := [14]) (by kernel_rfl) (by simp) ?_
                refine AllReadyH.cons rfl (fun K hK => ?_) ?_
                · go_simp
                  refine hK.out _ _ trivial (fun hHeld160 => ?_)
                  clear hK K hHeld160
                  try simp only [Act.put, List.setIfInBounds_toArray, List.set_cons_zero, List.set_cons_succ]
                  refine wpAnyH_done (by kernel_rfl) ?_ _
                  go_wp2_with fail
                  go_ret2
                  exact ⟨u3, u2, rfl, H3.out, H2.out, B154.out⟩
                exact AllReadyH.nil
              exact AllReadyH.nil
            exact AllReadyH.nil
          exact AllReadyH.nil
        refine AllReadyH.cons rfl (fun K hK => ?_) ?_
        · go_simp
          refine (pick_any w.heap.size w.heap.size 3 2 w248 (by omega) (by omega) R148.out).mono ?_
          rintro e w261 ⟨y161, rfl, hy, hr, hg⟩
          have hy161 : y161 < 2 := by have := hy (by omega); omega
          have iy161 : (y161 : Int) < 2 := by omega
          have R161 := Lib.hid hr
          have B161 := Lib.hid (below_app B148.out hg (Nat.le_refl _))
          have K161_8 := Lib.hid (Blk.grown K148_8.out hg (fun e => N134_8.out (by injection e)))
          obtain ⟨u2, hu2, hux161⟩ := HTW.out y161 hy161
          have H2 := Lib.hid hu2
          have X2 := Lib.hid hux161
          clear hy hr hg hu2 hux161
          go_wp2_with fail
          refine hK.out _ _ trivial (fun hHeld161 => ?_)
          clear hK K hHeld161
          try simp only [Act.put, List.setIfInBounds_toArray, List.set_cons_zero, List.set_cons_succ]
          refine wpAnyH_take (i := 11) (v := ?_) rfl (by kernel_rfl) (by kernel_rfl) (by kernel_rfl) (fun _ _ _ h => h) (Or.inl ⟨by rfl, ?_⟩) trivial ?_
          rotate_left 1
          · intro w hSw
            clear hSw
            go_simp
            first | done | with_reducible rfl
          try simp only [Act.put, List.setIfInBounds_toArray, List.set_cons_zero, List.set_cons_succ]
          refine wpAnyH_ready (rs := [1, 12]) (by kernel_rfl) (by simp) ?_
          refine AllReadyH.cons rfl (fun K hK => ?_) ?_
          · go_simp
            have R162 := Lib.hid (rdA (o := (.cells #[.int .i64 0, .int .i64 9, .int .i64 (n : Int)] 3)) R161.out)
            have B162 : Hid (Below w.heap.size w (w261.alloc (.cells #[.int .i64 0, .int .i64 9, .int .i64 (n : Int)] 3))) := Lib.hid (below_new' B161.out _)
            have K162_8 := Lib.hid (Blk.alloc K161_8.out (.cells #[.int .i64 0, .int .i64 9, .int .i64 (n : Int)] 3))
            have K162_1 : Hid (Blk (w261.alloc (.cells #[.int .i64 0, .int .i64 9, .int .i64 (n : Int)] 3)) (w261.heap.size) 3 #[.int .i64 0, .int .i64 9, .int .i64 (n : Int)]) := Lib.hid (by simpa using Blk.new w261 3 #[.int .i64 0, .int .i64 9, .int .i64 (n : Int)])
            have N162_1 : Hid (w261.heap.size ≠ w.heap.size) := Lib.hid (by have := R161.out.lt; (try simp at this); omega)
            refine hK.out _ _ trivial (fun hHeld162 => ?_)
            clear hK K hHeld162
            try simp only [Act.put, List.setIfInBounds_toArray, List.set_cons_zero, List.set_cons_succ]
            refine wpAnyH_take (i := 4) (v := ?_) rfl (by kernel_rfl) (by kernel_rfl) (by kernel_rfl) (fun _ _ _ h => h) (Or.inl ⟨by rfl, ?_⟩) trivial ?_
            rotate_left 1
            · intro w hSw
              clear hSw
              go_simp
              first | done | with_reducible rfl
            try simp only [Act.put, List.setIfInBounds_toArray, List.set_cons_zero, List.set_cons_succ]
            refine wpAnyH_ready (rs := [5, 12]) (by kernel_rfl) (by simp) ?_
            refine AllReadyH.cons rfl (fun K hK => ?_) ?_
            · have kc : ((w261.alloc (.cells #[.int .i64 0, .int .i64 9, .int .i64 (n : Int)] 3))).cell? ⟨w261.heap.size, y148, none⟩ = some (.int .i64 (u3 : Int)) := (K162_1.out.cell y148).trans X3.out
              go_simp
              clear kc
              refine hK.out _ _ trivial (fun hHeld163 => ?_)
              clear hK K hHeld163
              try simp only [Act.put, List.setIfInBounds_toArray, List.set_cons_zero, List.set_cons_succ]
              refine wpAnyH_take (i := 13) (v := ?_) rfl (by kernel_rfl) (by kernel_rfl) (by kernel_rfl) (fun _ _ _ h => h) (Or.inl ⟨by rfl, ?_⟩) trivial ?_
              rotate_left 1
              · intro w hSw
                clear hSw
                go_simp
                first | done | with_reducible rfl
              try simp only [Act.put, List.setIfInBounds_toArray, List.set_cons_zero, List.set_cons_succ]
              refine wpAnyH_ready (rs := [12]) (by kernel_rfl) (by simp) ?_
              refine AllReadyH.cons rfl (fun K hK => ?_) ?_
              · have kc : ((w261.alloc (.cells #[.int .i64 0, .int .i64 9, .int .i64 (n : Int)] 3))).cell? ⟨w3.heap.size, y161, none⟩ = some (.int .i64 (u2 : Int)) := (K162_8.out.cell y161).trans X2.out
                go_simp
                clear kc
                refine hK.out _ _ trivial (fun hHeld164 => ?_)
                clear hK K hHeld164
                try simp only [Act.put, List.setIfInBounds_toArray, List.set_cons_zero, List.set_cons_succ]
                refine wpAnyH_ready (rs := [14]) (by kernel_rfl) (by simp) ?_
                refine AllReadyH.cons rfl (fun K hK => ?_) ?_
                · go_simp
                  refine hK.out _ _ trivial (fun hHeld165 => ?_)
                  clear hK K hHeld165
                  try simp only [Act.put, List.setIfInBounds_toArray, List.set_cons_zero, List.set_cons_succ]
                  refine wpAnyH_done (by kernel_rfl) ?_ _
                  go_wp2_with fail
                  go_ret2
                  exact ⟨u3, u2, rfl, H3.out, H2.out, B162.out⟩
                exact AllReadyH.nil
              exact AllReadyH.nil
            refine AllReadyH.cons rfl (fun K hK => ?_) ?_
            · have kc : ((w261.alloc (.cells #[.int .i64 0, .int .i64 9, .int .i64 (n : Int)] 3))).cell? ⟨w3.heap.size, y161, none⟩ = some (.int .i64 (u2 : Int)) := (K162_8.out.cell y161).trans X2.out
              go_simp
              clear kc
              refine hK.out _ _ trivial (fun hHeld166 => ?_)
              clear hK K hHeld166
              try simp only [Act.put, List.setIfInBounds_toArray, List.set_cons_zero, List.set_cons_succ]
              refine wpAnyH_ready (rs := [5]) (by kernel_rfl) (by simp) ?_
              refine AllReadyH.cons rfl (fun K hK => ?_) ?_
              · have kc : ((w261.alloc (.cells #[.int .i64 0, .int .i64 9, .int .i64 (n : Int)] 3))).cell? ⟨w261.heap.size, y148, none⟩ = some (.int .i64 (u3 : Int)) := (K162_1.out.cell y148).trans X3.out
                go_simp
                clear kc
                refine hK.out _ _ trivial (fun hHeld167 => ?_)
                clear hK K hHeld167
                try simp only [Act.put, List.setIfInBounds_toArray, List.set_cons_zero, List.set_cons_succ]
                refine wpAnyH_take (i := 13) (v := ?_) rfl (by kernel_rfl) (by kernel_rfl) (by kernel_rfl) (fun _ _ _ h => h) (Or.inl ⟨by rfl, ?_⟩) trivial ?_
                rotate_left 1
                · intro w hSw
                  clear hSw
                  go_simp
                  first | done | with_reducible rfl
                try simp only [Act.put, List.setIfInBounds_toArray, List.set_cons_zero, List.set_cons_succ]
                refine wpAnyH_ready (rs := [14]) (by kernel_rfl) (by simp) ?_
                refine AllReadyH.cons rfl (fun K hK => ?_) ?_
                · go_simp
                  refine hK.out _ _ trivial (fun hHeld168 => ?_)
                  clear hK K hHeld168
                  try simp only [Act.put, List.setIfInBounds_toArray, List.set_cons_zero, List.set_cons_succ]
                  refine wpAnyH_done (by kernel_rfl) ?_ _
                  go_wp2_with fail
                  go_ret2
                  exact ⟨u3, u2, rfl, H3.out, H2.out, B162.out⟩
                exact AllReadyH.nil
              exact AllReadyH.nil
            exact AllReadyH.nil
          refine AllReadyH.cons rfl (fun K hK => ?_) ?_
          · have kc : (w261).cell? ⟨w3.heap.size, y161, none⟩ = some (.int .i64 (u2 : Int)) := (K161_8.out.cell y161).trans X2.out
            go_simp
            clear kc
            refine hK.out _ _ trivial (fun hHeld169 => ?_)
            clear hK K hHeld169
            try simp only [Act.put, List.setIfInBounds_toArray, List.set_cons_zero, List.set_cons_succ]
            refine wpAnyH_ready (rs := [1]) (by kernel_rfl) (by simp) ?_
            refine AllReadyH.cons rfl (fun K hK => ?_) ?_
            · go_simp
              have R170 := Lib.hid (rdA (o := (.cells #[.int .i64 0, .int .i64 9, .int .i64 (n : Int)] 3)) R161.out)
              have B170 : Hid (Below w.heap.size w (w261.alloc (.cells #[.int .i64 0, .int .i64 9, .int .i64 (n : Int)] 3))) := Lib.hid (below_new' B161.out _)
              have K170_8 := Lib.hid (Blk.alloc K161_8.out (.cells #[.int .i64 0, .int .i64 9, .int .i64 (n : Int)] 3))
              have K170_1 : Hid (Blk (w261.alloc (.cells #[.int .i64 0, .int .i64 9, .int .i64 (n : Int)] 3)) (w261.heap.size) 3 #[.int .i64 0, .int .i64 9, .int .i64 (n : Int)]) := Lib.hid (by simpa using Blk.new w261 3 #[.int .i64 0, .int .i64 9, .int .i64 (n : Int)])
              have N170_1 : Hid (w261.heap.size ≠ w.heap.size) := Lib.hid (by have := R161.out.lt; (try simp at this); omega)
              refine hK.out _ _ trivial (fun hHeld170 => ?_)
              clear hK K hHeld170
              try simp only [Act.put, List.setIfInBounds_toArray, List.set_cons_zero, List.set_cons_succ]
              refine wpAnyH_take (i := 4) (v := ?_) rfl (by kernel_rfl) (by kernel_rfl) (by kernel_rfl) (fun _ _ _ h => h) (Or.inl ⟨by rfl, ?_⟩) trivial ?_
              rotate_left 1
              · intro w hSw
                clear hSw
                go_simp
                first | done | with_reducible rfl
              try simp only [Act.put, List.setIfInBounds_toArray, List.set_cons_zero, List.set_cons_succ]
              refine wpAnyH_ready (rs := [5]) (by kernel_rfl) (by simp) ?_
              refine AllReadyH.cons rfl (fun K hK => ?_) ?_
              · have kc : ((w261.alloc (.cells #[.int .i64 0, .int .i64 9, .int .i64 (n : Int)] 3))).cell? ⟨w261.heap.size, y148, none⟩ = some (.int .i64 (u3 : Int)) := (K170_1.out.cell y148).trans X3.out
                go_simp
                clear kc
                refine hK.out _ _ trivial (fun hHeld171 => ?_)
                clear hK K hHeld171
                try simp only [Act.put, List.setIfInBounds_toArray, List.set_cons_zero, List.set_cons_succ]
                refine wpAnyH_take (i := 13) (v := ?_) rfl (by kernel_rfl) (by kernel_rfl) (by kernel_rfl) (fun _ _ _ h => h) (Or.inl ⟨by rfl, ?_⟩) trivial ?_
                rotate_left 1
                · intro w hSw
                  clear hSw
                  go_simp
                  first | done | with_reducible rfl
                try simp only [Act.put, List.setIfInBounds_toArray, List.set_cons_zero, List.set_cons_succ]
                refine wpAnyH_ready (rs := [14]) (by kernel_rfl) (by simp) ?_
                refine AllReadyH.cons rfl (fun K hK => ?_) ?_
                · go_simp
                  refine hK.out _ _ trivial (fun hHeld172 => ?_)
                  clear hK K hHeld172
                  try simp only [Act.put, List.setIfInBounds_toArray, List.set_cons_zero, List.set_cons_succ]
                  refine wpAnyH_done (by kernel_rfl) ?_ _
                  go_wp2_with fail
                  go_ret2
                  exact ⟨u3, u2, rfl, H3.out, H2.out, B170.out⟩
                exact AllReadyH.nil
              exact AllReadyH.nil
            exact AllReadyH.nil
          exact AllReadyH.nil
        exact AllReadyH.nil
      exact AllReadyH.nil
    exact AllReadyH.nil
    --@GEN4X
  · have t0 := beq_f (show (v : Int) ≠ 0 by omega)
    have t0n : (v == 0) = false := by simpa using hv0
    have HPK := Lib.hid (pick_any w.heap.size w.heap.size 2 (n : Int) _ (by omega) (by omega) R3.out)
    clear hv0
    go_wp2_with fail
    refine HPK.out.mono ?_
    rintro e w4 ⟨y, rfl, hy, hr4, hg4⟩
    have hy8 : (y : Int) < n := hy (by omega)
    have B4 := Lib.hid (below_app B3.out hg4 (Nat.le_refl _))
    have e1 : (1 + (y : Int)) = ((1 + y : Nat) : Int) := by omega
    have E1 := Lib.hid e1
    clear hy hr4 hg4 e1
    go_wp2_with fail
    go_ret2
    exact ⟨n, 1 + y, rfl, by omega, by omega, B4.out⟩
end Go.Proofs.Ytkfgimhihknpoaa
