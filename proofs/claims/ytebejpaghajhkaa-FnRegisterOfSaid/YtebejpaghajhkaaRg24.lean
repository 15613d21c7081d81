/-
  Registers' draws: a register and a minute, a register and a delay (DrawRegisterBlock, DrawRegisterUntil, DrawRegisterLate; region 4 printed by gen_rg24.py). No condition.
-/
import Derived.Test.YtebejpaghajhkaaRg23
namespace Go.Proofs.Ytebejpaghajhkaa
open Go.RowKit
set_option linter.unusedVariables false
set_option linter.unusedSimpArgs false

section
variable {w w2 W W' : World} {base R q g c : Nat} {ns : List NV}
theorem Nm.fin (b : Below w.heap.size w w2) (h : Nm w2 W base w.heap.size q g c ns) : OwnN W w.heap.size g c ns ∧ Below w.heap.size w W :=
  ⟨OwnV.mono h.2.2.1 (Nat.le_trans b.size (OwnV.le h.2.2.1)), below_app b h.1 (Nat.le_refl _)⟩
theorem Nm.drew (k : Nm w W base R q g c ns) : Nm w W.drew base R q g c ns := ⟨gbD k.1, rdD k.2.1, k.2.2.1, k.2.2.2⟩
end
/-- What drawing a list of notes and a number leaves. -/
def DNm (lo hi : Int) (w : World) (e : Ending) (w' : World) : Prop := ∃ (ns : List NV) (g c : Nat) (x : Int), e = .returned (.tuple #[.slice (some ⟨g, 0, none⟩) ns.length c, .int .i64 x]) ∧ OwnN w' w.heap.size g c ns ∧ BdN ns ∧ ns.length ≤ 33 ∧ (lo ≤ x ∧ x ≤ hi) ∧ Below w.heap.size w w'

set_option maxHeartbeats 1600000 in
theorem draw_rblock (A : Option Addr) (c m : Nat) (w : World) (hmc : m ≤ c) (hc : c ≤ 9223372036854775807) (hr : ByteRow w w.heap.size A m) :
    Calls Try.prog 68 #[.slice A m c] w (DNm (-2) 107 w) := by
  have HO := Lib.hid (open_any w.heap.size A m c w (Nat.le_refl _) hmc hc hr)
  clear hr
  go_enter Try.func68, Try.ntmps68
  go_wp2_with fail
  refine HO.out.mono ?_
  rintro e w2 ⟨rfl, hr2, hb2⟩
  have R2 := Lib.hid hr2
  have B2 := Lib.hid hb2
  clear hr2 hb2 HO
  go_wp2_with fail
  refine (l92Notes_any w.heap.size w.heap.size 0 w2 (by omega) R2.out).mono ?_
  rintro e w3 ⟨ns, g, c', q, rfl, ho, hbd, hn, hq, hr3, hg3⟩
  have M3 : Hid (Nm w2 w3 w.heap.size w.heap.size q g c' ns) := Lib.hid ⟨hg3, hr3, ho, R2.out.lt⟩
  have BD := Lib.hid hbd
  clear ho hbd hr3 hg3 R2
  go_wp2_with fail
  refine (pick_any w.heap.size w.heap.size q 110 w3 (by omega) (by omega) M3.out.2.1).mono ?_
  rintro e w4 ⟨x, rfl, hx, hr4, hg4⟩
  have hx110 : x < 110 := by have := hx (by omega); omega
  have M4 := Lib.hid (M3.out.pick hg4 hr4)
  have F := Lib.hid (Nm.fin B2.out M4.out)
  have i1 : IntKind.i64.wrap ((x : Int) - 2) = (x : Int) - 2 := IntWalk.i64_in _ (by omega)
  clear hx hr4 hg4 M3 M4 B2
  go_wp2_with fail
  go_ret2
  exact ⟨ns, g, c', (x : Int) - 2, rfl, F.out.1, BD.out, hn, by omega, F.out.2⟩

set_option maxHeartbeats 1600000 in
theorem draw_runtil (A : Option Addr) (c m : Nat) (w : World) (hmc : m ≤ c) (hc : c ≤ 9223372036854775807) (hr : ByteRow w w.heap.size A m) :
    Calls Try.prog 30 #[.slice A m c] w (DNm (-2) 107 w) := by
  have HD := Lib.hid (draw_rblock A c m w hmc hc hr)
  clear hr
  go_enter Try.func30, Try.ntmps30
  go_wp2_with fail
  refine HD.out.mono ?_
  rintro e w2 ⟨ns, g, c', x, rfl, ho, hbd, hn, hx, hb⟩
  have O2 := Lib.hid ho
  have BD := Lib.hid hbd
  have B2 := Lib.hid hb
  clear ho hbd hb HD
  go_wp2_with fail
  go_ret2
  exact ⟨ns, g, c', x, rfl, O2.out, BD.out, hn, hx, B2.out⟩

set_option maxHeartbeats 1600000 in
theorem draw_rlate (A : Option Addr) (c m : Nat) (w : World) (hmc : m ≤ c) (hc : c ≤ 9223372036854775807) (hr : ByteRow w w.heap.size A m) :
    Calls Try.prog 43 #[.slice A m c] w (DNm (-9223372036854775808) 9223372036854775807 w) := by
  have HO := Lib.hid (open_any w.heap.size A m c w (Nat.le_refl _) hmc hc hr)
  have HTH : Hid (∀ y, y < 3 → ∃ u : Int, (#[Value.int .i64 9223372036854775807, .int .i64 (-9223372036854775808), .int .i64 1950] : Array Value)[y]? = some (.int .i64 u) ∧ -9223372036854775808 ≤ u ∧ u ≤ 9223372036854775807) := Lib.hid (fun y hy => by
    rcases (show y = 0 ∨ y = 1 ∨ y = 2 by omega) with rfl | rfl | rfl
    · exact ⟨9223372036854775807, rfl, by omega, by omega⟩
    · exact ⟨-9223372036854775808, rfl, by omega, by omega⟩
    · exact ⟨1950, rfl, by omega, by omega⟩)
  clear hr
  go_enter Try.func43, Try.ntmps43
  go_wp2_with fail
  refine HO.out.mono ?_
  rintro e w2 ⟨rfl, hr2, hb2⟩
  have R2 := Lib.hid hr2
  have B2 := Lib.hid hb2
  clear hr2 hb2 HO
  go_wp2_with fail
  refine (l92Notes_any w.heap.size w.heap.size 0 w2 (by omega) R2.out).mono ?_
  rintro e w3 ⟨ns, g, c', q, rfl, ho, hbd, hn, hq, hr3, hg3⟩
  have M3 : Hid (Nm w2 w3 w.heap.size w.heap.size q g c' ns) := Lib.hid ⟨hg3, hr3, ho, R2.out.lt⟩
  have BD := Lib.hid hbd
  clear ho hbd hr3 hg3 R2
  go_wp2_with fail
  refine (pick_any w.heap.size w.heap.size q 16 w3 (by omega) (by omega) M3.out.2.1).mono ?_
  rintro e w4 ⟨x, rfl, _, hr4, hg4⟩
  have M4 := Lib.hid (M3.out.pick hg4 hr4)
  clear hr4 hg4 M3
  by_cases h0 : x = 0
  · subst h0
    go_upto_region 4 with fail
    --@GEN4
    refine wp_region_held_drew (S := fun _ => True) (by kernel_rfl) trivial (fun hHeld0 => ?_)
    clear hHeld0
    have M4d : Hid (Nm w2 w4.drew w.heap.size w.heap.size (q + 1) g c' ns) := Lib.hid M4.out.drew
    refine wpAnyH_take (i := 0) (v := ?_) rfl (by kernel_rfl) (by kernel_rfl) (by kernel_rfl) (fun _ _ _ h => h) (Or.inl ⟨by rfl, ?_⟩) trivial ?_
    rotate_left 1
    · intro w hSw
      clear hSw
      go_simp
      first | done | with_reducible rfl
    try simp only [Act.put, List.setIfInBounds_toArray, List.set_cons_zero, List.set_cons_succ]
    refine wpAnyH_take (i := 2) (v := ?_) rfl (by kernel_rfl) (by kernel_rfl) (by kernel_rfl) (fun _ _ _ h => h) (Or.inl ⟨by rfl, ?_⟩) trivial ?_
    rotate_left 1
    · intro w hSw
      clear hSw
      go_simp
      first | done | with_reducible rfl
    try simp only [Act.put, List.setIfInBounds_toArray, List.set_cons_zero, List.set_cons_succ]
    refine wpAnyH_ready (rs := [1, 3]) (by kernel_rfl) (by simp) ?_
    refine AllReadyH.cons rfl (fun K hK => ?_) ?_
    · go_simp
      have M101 : Hid (Nm w2 (w4.drew.alloc (.cells #[.int .i64 9223372036854775807, .int .i64 (-9223372036854775808), .int .i64 1950] 3)) w.heap.size w.heap.size (q + 1) g c' ns) := Lib.hid (Nm.step M4d.out (below_new _ _))
      have K1 : Hid (Blk (w4.drew.alloc (.cells #[.int .i64 9223372036854775807, .int .i64 (-9223372036854775808), .int .i64 1950] 3)) (w4.heap.size) 3 #[.int .i64 9223372036854775807, .int .i64 (-9223372036854775808), .int .i64 1950]) := Lib.hid (by simpa using Blk.new w4.drew 3 #[.int .i64 9223372036854775807, .int .i64 (-9223372036854775808), .int .i64 1950])
      have N1 : Hid (w4.heap.size ≠ w.heap.size) := Lib.hid (by have := M4d.out.2.1.lt; (try simp at this); omega)
      refine hK.out _ _ trivial (fun hHeld1 => ?_)
      clear hK K hHeld1
      try simp only [Act.put, List.setIfInBounds_toArray, List.set_cons_zero, List.set_cons_succ]
      refine wpAnyH_ready (rs := [3]) (by kernel_rfl) (by simp) ?_
      refine AllReadyH.cons rfl (fun K hK => ?_) ?_
      · go_simp
        refine (pick_any w.heap.size w.heap.size (q + 1) 3 (w4.drew.alloc (.cells #[.int .i64 9223372036854775807, .int .i64 (-9223372036854775808), .int .i64 1950] 3)) (by omega) (by omega) M101.out.2.1).mono ?_
        rintro e w102 ⟨y, rfl, hy, hr, hg⟩
        have hy3 : y < 3 := by have := hy (by omega); omega
        have iy : (y : Int) < 3 := by omega
        have M102 := Lib.hid (M101.out.pick hg hr)
        have K2 := Lib.hid (Blk.grown K1.out hg (fun e => N1.out (by injection e)))
        obtain ⟨u, hu, hub⟩ := HTH.out y hy3
        have HX := Lib.hid hu
        have HU := Lib.hid hub
        clear hy hr hg hu hub
        go_wp2_with fail
        refine hK.out _ _ trivial (fun hHeld2 => ?_)
        clear hK K hHeld2
        try simp only [Act.put, List.setIfInBounds_toArray, List.set_cons_zero, List.set_cons_succ]
        refine wpAnyH_take (i := 4) (v := ?_) rfl (by kernel_rfl) (by kernel_rfl) (by kernel_rfl) (fun _ _ _ h => h) (Or.inl ⟨by rfl, ?_⟩) trivial ?_
        rotate_left 1
        · intro w hSw
          clear hSw
          go_simp
          first | done | with_reducible rfl
        try simp only [Act.put, List.setIfInBounds_toArray, List.set_cons_zero, List.set_cons_succ]
        refine wpAnyH_take (i := 6) (v := ?_) rfl (by kernel_rfl) (by kernel_rfl) (by kernel_rfl) (fun _ _ _ h => h) (Or.inl ⟨by rfl, ?_⟩) trivial ?_
        rotate_left 1
        · intro w hSw
          clear hSw
          go_simp
          first | done | with_reducible rfl
        try simp only [Act.put, List.setIfInBounds_toArray, List.set_cons_zero, List.set_cons_succ]
        refine wpAnyH_ready (rs := [5]) (by kernel_rfl) (by simp) ?_
        refine AllReadyH.cons rfl (fun K hK => ?_) ?_
        · have kc : (w102).cell? ⟨w4.heap.size, y, none⟩ = some (.int .i64 u) := (K2.out.cell y).trans HX.out
          go_simp
          clear kc
          refine hK.out _ _ trivial (fun hHeld3 => ?_)
          clear hK K hHeld3
          try simp only [Act.put, List.setIfInBounds_toArray, List.set_cons_zero, List.set_cons_succ]
          refine wpAnyH_ready (rs := [7]) (by kernel_rfl) (by simp) ?_
          refine AllReadyH.cons rfl (fun K hK => ?_) ?_
          · go_simp
            refine hK.out _ _ trivial (fun hHeld4 => ?_)
            clear hK K hHeld4
            try simp only [Act.put, List.setIfInBounds_toArray, List.set_cons_zero, List.set_cons_succ]
            refine wpAnyH_done (by kernel_rfl) ?_ _
            have F := Lib.hid (Nm.fin B2.out M102.out)
            go_wp2_with fail
            go_ret2
            exact ⟨ns, g, c', u, rfl, F.out.1, BD.out, hn, HU.out, F.out.2⟩
          exact AllReadyH.nil
        exact AllReadyH.nil
      exact AllReadyH.nil
    refine AllReadyH.cons rfl (fun K hK => ?_) ?_
    · go_simp
      refine (pick_any w.heap.size w.heap.size (q + 1) 3 w4.drew (by omega) (by omega) M4d.out.2.1).mono ?_
      rintro e w105 ⟨y, rfl, hy, hr, hg⟩
      have hy3 : y < 3 := by have := hy (by omega); omega
      have iy : (y : Int) < 3 := by omega
      have M105 := Lib.hid (M4d.out.pick hg hr)
      obtain ⟨u, hu, hub⟩ := HTH.out y hy3
      have HX := Lib.hid hu
      have HU := Lib.hid hub
      clear hy hr hg hu hub
      go_wp2_with fail
      refine hK.out _ _ trivial (fun hHeld5 => ?_)
      clear hK K hHeld5
      try simp only [Act.put, List.setIfInBounds_toArray, List.set_cons_zero, List.set_cons_succ]
      refine wpAnyH_take (i := 6) (v := ?_) rfl (by kernel_rfl) (by kernel_rfl) (by kernel_rfl) (fun _ _ _ h => h) (Or.inl ⟨by rfl, ?_⟩) trivial ?_
      rotate_left 1
      · intro w hSw
        clear hSw
        go_simp
        first | done | with_reducible rfl
      try simp only [Act.put, List.setIfInBounds_toArray, List.set_cons_zero, List.set_cons_succ]
      refine wpAnyH_ready (rs := [1]) (by kernel_rfl) (by simp) ?_
      refine AllReadyH.cons rfl (fun K hK => ?_) ?_
      · go_simp
        have M106 : Hid (Nm w2 (w105.alloc (.cells #[.int .i64 9223372036854775807, .int .i64 (-9223372036854775808), .int .i64 1950] 3)) w.heap.size w.heap.size (q + 1 + 1) g c' ns) := Lib.hid (Nm.step M105.out (below_new _ _))
        have K6 : Hid (Blk (w105.alloc (.cells #[.int .i64 9223372036854775807, .int .i64 (-9223372036854775808), .int .i64 1950] 3)) (w105.heap.size) 3 #[.int .i64 9223372036854775807, .int .i64 (-9223372036854775808), .int .i64 1950]) := Lib.hid (by simpa using Blk.new w105 3 #[.int .i64 9223372036854775807, .int .i64 (-9223372036854775808), .int .i64 1950])
        have N6 : Hid (w105.heap.size ≠ w.heap.size) := Lib.hid (by have := M105.out.2.1.lt; (try simp at this); omega)
        refine hK.out _ _ trivial (fun hHeld6 => ?_)
        clear hK K hHeld6
        try simp only [Act.put, List.setIfInBounds_toArray, List.set_cons_zero, List.set_cons_succ]
        refine wpAnyH_take (i := 4) (v := ?_) rfl (by kernel_rfl) (by kernel_rfl) (by kernel_rfl) (fun _ _ _ h => h) (Or.inl ⟨by rfl, ?_⟩) trivial ?_
        rotate_left 1
        · intro w hSw
          clear hSw
          go_simp
          first | done | with_reducible rfl
        try simp only [Act.put, List.setIfInBounds_toArray, List.set_cons_zero, List.set_cons_succ]
        refine wpAnyH_ready (rs := [5]) (by kernel_rfl) (by simp) ?_
        refine AllReadyH.cons rfl (fun K hK => ?_) ?_
        · have kc : ((w105.alloc (.cells #[.int .i64 9223372036854775807, .int .i64 (-9223372036854775808), .int .i64 1950] 3))).cell? ⟨w105.heap.size, y, none⟩ = some (.int .i64 u) := (K6.out.cell y).trans HX.out
          go_simp
          clear kc
          refine hK.out _ _ trivial (fun hHeld7 => ?_)
          clear hK K hHeld7
          try simp only [Act.put, List.setIfInBounds_toArray, List.set_cons_zero, List.set_cons_succ]
          refine wpAnyH_ready (rs := [7]) (by kernel_rfl) (by simp) ?_
          refine AllReadyH.cons rfl (fun K hK => ?_) ?_
          · go_simp
            refine hK.out _ _ trivial (fun hHeld8 => ?_)
            clear hK K hHeld8
            try simp only [Act.put, List.setIfInBounds_toArray, List.set_cons_zero, List.set_cons_succ]
            refine wpAnyH_done (by kernel_rfl) ?_ _
            have F := Lib.hid (Nm.fin B2.out M106.out)
            go_wp2_with fail
            go_ret2
            exact ⟨ns, g, c', u, rfl, F.out.1, BD.out, hn, HU.out, F.out.2⟩
          exact AllReadyH.nil
        exact AllReadyH.nil
      exact AllReadyH.nil
    exact AllReadyH.nil
    --@GEN4X
  · have t1 := beq_f (show (x : Int) ≠ 0 by omega)
    have t1n : (x == 0) = false := by simpa using h0
    clear h0
    go_wp2_with fail
    refine (pick_any w.heap.size w.heap.size (q + 1) 61 w4 (by omega) (by omega) M4.out.2.1).mono ?_
    rintro e w5 ⟨y, rfl, hy, hr5, hg5⟩
    have hy61 : y < 61 := by have := hy (by omega); omega
    have M5 := Lib.hid (M4.out.pick hg5 hr5)
    have F := Lib.hid (Nm.fin B2.out M5.out)
    have i1 : IntKind.i64.wrap ((y : Int) - 30) = (y : Int) - 30 := IntWalk.i64_in _ (by omega)
    clear hy hr5 hg5 M4 M5 B2
    go_wp2_with fail
    go_ret2
    exact ⟨ns, g, c', (y : Int) - 30, rfl, F.out.1, BD.out, hn, by omega, F.out.2⟩
end Go.Proofs.Ytebejpaghajhkaa
