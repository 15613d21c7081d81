/-
  Registers: a later register of the reference (region 5 printed by gen_rg34.py). No condition but lengths that fit.
-/
import Derived.Test.YtebejpaghajhkaaRg33
import Derived.Test.YtebejpaghajhkaaRg25
namespace Go.Proofs.Ytebejpaghajhkaa
open Go.RowKit
set_option linter.unusedVariables false
set_option linter.unusedSimpArgs false

theorem reg_pos {ns : List NV} (h : regB ns = false) : 0 < ns.length := by
  rcases Nat.eq_zero_or_pos ns.length with h0 | h0
  · obtain rfl := List.eq_nil_of_length_eq_zero h0
    have : regB [] = true := rfl
    rw [this] at h; cases h
  · exact h0
theorem atNt_one (w : World) (m : Int) (s : ByteArray) : AtNt (w.alloc (.cells #[.int .i64 m, .string s] 48)) w.heap.size 0 [(m, s)] := fun k hk => by
  obtain rfl : k = 0 := by simp at hk; omega
  exact ⟨by simp, by simp⟩
theorem lat_snoc {ns : List NV} {x : Int} {k : Nat} (h : k < ns.length) : lat (ns.take (k + 1)) x = lat (ns.take k) x ++ [((ns.getD k Z2).1 + x, (ns.getD k Z2).2)] := by
  rw [take_snocN h]
  simp [lat]
set_option maxHeartbeats 3200000 in
theorem specLate_any (b off c : Nat) (ns : List NV) (x : Int) (w : World) (hs : SzNt ns) (hb : b < w.heap.size) (ha : AtNt w b off ns) :
    Calls Try.prog 44 #[.slice (some ⟨b, off, none⟩) ns.length c, .int .i64 x] w (LateR w ns x) := by
  have HV := Lib.hid (fun W (k : Below w.heap.size w W) => specRValid_any (some ⟨b, off, none⟩) c ns W (by have := hs.1; omega) hs.2 (RdNt.below (fun _ => ⟨b, off, rfl, hb, ha⟩) k))
  have HA := Lib.hid ha
  have HN := hs.1
  have HL := Lib.hid (fun (n : Int) (W : World) => l6In_any n (-2000) 2000 W)
  have O0 := Lib.hid (ownNm_empty w w.heap.size (Nat.le_refl _))
  have B0 := Lib.hid (below_new w (.cells #[] 48))
  have HE := Lib.hid (fun (W : World) => specRValid_any (some ⟨w.heap.size, 0, none⟩) 0 [] W (by simp) (fun k hk => absurd hk (by simp)) (fun h => absurd h (by simp)))
  have en : regB [] = true := rfl
  rw [en] at HE
  clear en ha hs
  by_cases h0 : ns.length = 0
  · obtain rfl := List.eq_nil_of_length_eq_zero h0
    rw [lateR_t lateB_nil]
    have el : lat [] x = [] := rfl
    rw [el]
    clear h0 el HV
    go_enter Try.func44, Try.ntmps44
    go_wp2_with fail
    generalize w.alloc (.cells #[] 48) = W1 at *
    go_loopw [6, 7] (fun o i wr => o = .slice (some ⟨w.heap.size, 0, none⟩) 0 0 ∧ i = .int .i64 0 ∧ W1 = wr) (fun _ _ _ => 0)
    case atStart => exact ⟨rfl, rfl, rfl⟩
    case round =>
      obtain ⟨rfl, rfl, rfl⟩ := hrel
      go_wp2_with (go_at_call 54; refine (HE.out W1).mono ?_; rintro e w2 ⟨rfl, rfl⟩)
      go_ret2
      exact ⟨w.heap.size, 0, rfl, O0.out, B0.out⟩
  have h0p : 0 < ns.length := by omega
  have t0 := dec_t (show (0 : Int) < (ns.length : Int) by omega)
  have t0n := dec_t h0p
  have t1 := bne_t (show (0 : Int) ≠ (ns.length : Int) by omega)
  have t1n : (0 != ns.length) = true := by simp; omega
  cases hv : regB ns with
  | false =>
    rw [hv] at HV
    rw [lateR_f (lateB_f hv)]
    clear hv h0
    go_enter Try.func44, Try.ntmps44
    go_wp2_with fail
    generalize w.alloc (.cells #[] 48) = W1 at *
    go_loopw [6, 7] (fun o i wr => o = .slice (some ⟨w.heap.size, 0, none⟩) 0 0 ∧ i = .int .i64 0 ∧ W1 = wr) (fun _ _ _ => 0)
    case atStart => exact ⟨rfl, rfl, rfl⟩
    case round =>
      obtain ⟨rfl, rfl, rfl⟩ := hrel
      go_wp2_with (go_at_call 54; refine (HV.out _ B0.out).mono ?_; rintro e w2 ⟨rfl, rfl⟩)
      go_ret2
      exact ⟨_, 0, rfl, ownNm_empty _ w.heap.size B0.out.size, below_new' B0.out _⟩
  | true =>
  rw [hv] at HV
  cases hx : inB (-2000) 2000 x with
  | false =>
    have HLX := Lib.hid (HL.out x)
    rw [hx] at HLX
    have hxo : x < -2000 ∨ 2000 < x := by
      rcases Int.lt_or_le x (-2000) with h | h
      · exact .inl h
      · rcases Int.lt_or_le 2000 x with h2 | h2
        · exact .inr h2
        · rw [inB_true ⟨h, h2⟩] at hx; cases hx
    rw [lateR_f (lateB_out h0p hxo)]
    clear hv h0 hx hxo HL
    go_enter Try.func44, Try.ntmps44
    go_wp2_with fail
    generalize w.alloc (.cells #[] 48) = W1 at *
    go_loopw [6, 7] (fun o i wr => o = .slice (some ⟨w.heap.size, 0, none⟩) 0 0 ∧ i = .int .i64 0 ∧ W1 = wr) (fun _ _ _ => 0)
    case atStart => exact ⟨rfl, rfl, rfl⟩
    case round =>
      obtain ⟨rfl, rfl, rfl⟩ := hrel
      go_wp2_with (first | (go_at_call 54; refine (HV.out _ B0.out).mono ?_; rintro e w2 ⟨rfl, rfl⟩) | (go_at_call 65; refine (HLX.out _).mono ?_; rintro e w2 ⟨rfl, rfl⟩))
      go_ret2
      exact ⟨_, 0, rfl, ownNm_empty _ w.heap.size B0.out.size, below_new' B0.out _⟩
  | true =>
    have HLX := Lib.hid (HL.out x)
    rw [hx] at HLX
    have hxb := inB_iff.1 hx
    have HLB := Lib.hid (lateB_in hv h0p hxb)
    have HBD := Lib.hid (fun k hk => reg_bd hv k hk)
    have hl := reg_len hv
    obtain ⟨P, hP⟩ : ∃ P, LateR w ns x = P := ⟨_, rfl⟩
    rw [hP]
    have HP := Lib.hid hP
    clear hv h0 hx HL hP t0 t0n t1 t1n
    go_enter Try.func44, Try.ntmps44
    go_wp2_with fail
    generalize w.alloc (.cells #[] 48) = W1 at *
    go_loopw [6, 7] (fun o i wr => ∃ k g cc : Nat, k ≤ ns.length ∧ i = .int .i64 k ∧ o = .slice (some ⟨g, 0, none⟩) k cc ∧ OwnNm wr w.heap.size g cc k (lat (ns.take k) x) ∧ Below w.heap.size w wr) (fun _ i _ => ns.length - (intOf i).toNat)
    case atStart => exact ⟨0, _, 0, by omega, rfl, rfl, by simpa [lat] using O0.out, B0.out⟩
    case round =>
      clear O0 B0
      obtain ⟨k, g, cc, hk, rfl, rfl, hown, hbel⟩ := hrel
      have HO := Lib.hid hown
      have HB := Lib.hid hbel
      clear hown hbel
      by_cases hlt : k < ns.length
      · have t0 := dec_t (show (k : Int) < (ns.length : Int) by omega)
        have i1 : (k : Int) < (ns.length : Int) := by omega
        have hk1 : k + 1 ≤ ns.length := hlt
        have hbd := (HBD.out k hlt).1
        have hsn := lat_snoc (x := x) hlt
        obtain ⟨p0, p1⟩ := HA.out.below HB.out hb k hlt
        obtain ⟨⟨m, s⟩, hms⟩ : ∃ y, ns.getD k Z2 = y := ⟨_, rfl⟩
        rw [hms] at p0 p1 hbd hsn
        simp only at p0 p1 hbd hsn
        have u1 : IntKind.i64.wrap (m + x) = m + x := IntWalk.i64_in _ (by omega)
        have HSN := Lib.hid hsn
        have HLN : Hid (k + 1 = (lat (ns.take (k + 1)) x).length) := Lib.hid (by rw [lat_len, List.length_take]; omega)
        have GB : Hid (b < wr.heap.size ∧ b ≠ g) := Lib.hid ⟨Nat.lt_of_lt_of_le hb HB.out.size, by have := OwnV.le HO.out; omega⟩
        have AT : Hid (AtNt (wr.drew.alloc (.cells #[.int .i64 (m + x), .string s] 48)) wr.heap.size 0 [(m + x, s)]) := Lib.hid (atNt_one wr.drew (m + x) s)
        have OA : Hid (OwnNm (wr.drew.alloc (.cells #[.int .i64 (m + x), .string s] 48)) w.heap.size g cc k (lat (ns.take k) x)) := Lib.hid (OwnV.alloc (w := wr.drew) HO.out _)
        have q0 : (wr.drew.alloc (.cells #[.int .i64 (m + x), .string s] 48)).cell? ⟨b, off + k * 2, none⟩ = some (.int .i64 m) := (((Below.refl wr.heap.size wr).drew.alloc (Nat.le_refl _) _).cell GB.out.1).trans p0
        have q1 : (wr.drew.alloc (.cells #[.int .i64 (m + x), .string s] 48)).cell? ⟨b, off + k * 2 + 1, none⟩ = some (.string s) := (((Below.refl wr.heap.size wr).drew.alloc (Nat.le_refl _) _).cell GB.out.1).trans p1
        have QQ := Lib.hid (And.intro q0 q1)
        clear hms hlt hsn q0 q1
        go_wp2_with (first | (go_at_call 54; refine (HV.out _ HB.out).mono ?_; rintro e w2 ⟨rfl, rfl⟩) | (go_at_call 65; refine (HLX.out _).mono ?_; rintro e w2 ⟨rfl, rfl⟩))
        --@GENA
        refine wp_region_held_drew (S := (fun w' => w'.cell? ⟨b, off + k * 2, none⟩ = some (.int .i64 m) ∧ w'.cell? ⟨b, off + k * 2 + 1, none⟩ = some (.string s))) (by kernel_rfl) ?_ (fun hHeld0 => ?_)
        · exact ⟨p0, p1⟩
        refine wpAnyH_take (i := 0) (v := ?_) rfl (by kernel_rfl) (by kernel_rfl) (by kernel_rfl) (fun _ _ _ h => h) (Or.inl ⟨by rfl, ?_⟩) hHeld0 ?_
        rotate_left 1
        · intro w hSw
          try dsimp only at hSw
          go_simp
          first | done | with_reducible rfl
        try simp only [Act.put, List.setIfInBounds_toArray, List.set_cons_zero, List.set_cons_succ]
        refine wpAnyH_take (i := 1) (v := ?_) rfl (by kernel_rfl) (by kernel_rfl) (by kernel_rfl) (fun _ _ _ h => h) (Or.inl ⟨by rfl, ?_⟩) hHeld0 ?_
        rotate_left 1
        · intro w hSw
          try dsimp only at hSw
          go_simp
          first | done | with_reducible rfl
        try simp only [Act.put, List.setIfInBounds_toArray, List.set_cons_zero, List.set_cons_succ]
        refine wpAnyH_take (i := 2) (v := ?_) rfl (by kernel_rfl) (by kernel_rfl) (by kernel_rfl) (fun _ _ _ h => h) (Or.inl ⟨by rfl, ?_⟩) hHeld0 ?_
        rotate_left 1
        · intro w hSw
          try dsimp only at hSw
          go_simp
          first | done | with_reducible rfl
        try simp only [Act.put, List.setIfInBounds_toArray, List.set_cons_zero, List.set_cons_succ]
        refine wpAnyH_take (i := 3) (v := ?_) rfl (by kernel_rfl) (by kernel_rfl) (by kernel_rfl) (fun _ _ _ h => h) (Or.inl ⟨by rfl, ?_⟩) hHeld0 ?_
        rotate_left 1
        · intro w hSw
          try dsimp only at hSw
          go_simp
          first | done | with_reducible rfl
        try simp only [Act.put, List.setIfInBounds_toArray, List.set_cons_zero, List.set_cons_succ]
        refine wpAnyH_take (i := 4) (v := ?_) rfl (by kernel_rfl) (by kernel_rfl) (by kernel_rfl) (fun _ _ _ h => h) (Or.inl ⟨by rfl, ?_⟩) hHeld0 ?_
        rotate_left 1
        · intro w hSw
          try dsimp only at hSw
          go_simp
          first | done | with_reducible rfl
        try simp only [Act.put, List.setIfInBounds_toArray, List.set_cons_zero, List.set_cons_succ]
        refine wpAnyH_take (i := 5) (v := ?_) rfl (by kernel_rfl) (by kernel_rfl) (by kernel_rfl) (fun _ _ _ h => h) (Or.inl ⟨by rfl, ?_⟩) hHeld0 ?_
        rotate_left 1
        · intro w hSw
          try dsimp only at hSw
          go_simp
          first | done | with_reducible rfl
        try simp only [Act.put, List.setIfInBounds_toArray, List.set_cons_zero, List.set_cons_succ]
        refine wpAnyH_take (i := 6) (v := ?_) rfl (by kernel_rfl) (by kernel_rfl) (by kernel_rfl) (fun _ _ _ h => h) (Or.inl ⟨by rfl, ?_⟩) hHeld0 ?_
        rotate_left 1
        · intro w hSw
          try dsimp only at hSw
          go_simp
          first | done | with_reducible rfl
        try simp only [Act.put, List.setIfInBounds_toArray, List.set_cons_zero, List.set_cons_succ]
        refine wpAnyH_take (i := 7) (v := ?_) rfl (by kernel_rfl) (by kernel_rfl) (by kernel_rfl) (fun _ _ _ h => h) (Or.inl ⟨by rfl, ?_⟩) hHeld0 ?_
        rotate_left 1
        · intro w hSw
          try dsimp only at hSw
          go_simp
          first | done | with_reducible rfl
        try simp only [Act.put, List.setIfInBounds_toArray, List.set_cons_zero, List.set_cons_succ]
        refine wpAnyH_take (i := 8) (v := ?_) rfl (by kernel_rfl) (by kernel_rfl) (by kernel_rfl) (fun _ _ _ h => h) (Or.inl ⟨by rfl, ?_⟩) hHeld0 ?_
        rotate_left 1
        · intro w hSw
          try dsimp only at hSw
          go_simp
          first | done | with_reducible rfl
        try simp only [Act.put, List.setIfInBounds_toArray, List.set_cons_zero, List.set_cons_succ]
        refine wpAnyH_take (i := 9) (v := ?_) rfl (by kernel_rfl) (by kernel_rfl) (by kernel_rfl) (fun _ _ _ h => h) (Or.inl ⟨by rfl, ?_⟩) hHeld0 ?_
        rotate_left 1
        · intro w hSw
          try dsimp only at hSw
          go_simp
          first | done | with_reducible rfl
        try simp only [Act.put, List.setIfInBounds_toArray, List.set_cons_zero, List.set_cons_succ]
        refine wpAnyH_take (i := 10) (v := ?_) rfl (by kernel_rfl) (by kernel_rfl) (by kernel_rfl) (fun _ _ _ h => h) (Or.inl ⟨by rfl, ?_⟩) hHeld0 ?_
        rotate_left 1
        · intro w hSw
          try dsimp only at hSw
          go_simp
          first | done | with_reducible rfl
        try simp only [Act.put, List.setIfInBounds_toArray, List.set_cons_zero, List.set_cons_succ]
        refine wpAnyH_take (i := 11) (v := ?_) rfl (by kernel_rfl) (by kernel_rfl) (by kernel_rfl) (fun _ _ _ h => h) (Or.inl ⟨by rfl, ?_⟩) hHeld0 ?_
        rotate_left 1
        · intro w hSw
          try dsimp only at hSw
          go_simp
          first | done | with_reducible rfl
        try simp only [Act.put, List.setIfInBounds_toArray, List.set_cons_zero, List.set_cons_succ]
        refine wpAnyH_take (i := 12) (v := ?_) rfl (by kernel_rfl) (by kernel_rfl) (by kernel_rfl) (fun _ _ _ h => h) (Or.inl ⟨by rfl, ?_⟩) hHeld0 ?_
        rotate_left 1
        · intro w hSw
          try dsimp only at hSw
          go_simp
          first | done | with_reducible rfl
        try simp only [Act.put, List.setIfInBounds_toArray, List.set_cons_zero, List.set_cons_succ]
        refine wpAnyH_take (i := 13) (v := ?_) rfl (by kernel_rfl) (by kernel_rfl) (by kernel_rfl) (fun _ _ _ h => h) (Or.inl ⟨by rfl, ?_⟩) hHeld0 ?_
        rotate_left 1
        · intro w hSw
          try dsimp only at hSw
          go_simp
          first | done | with_reducible rfl
        try simp only [Act.put, List.setIfInBounds_toArray, List.set_cons_zero, List.set_cons_succ]
        refine wpAnyH_ready (rs := [14]) (by kernel_rfl) (by simp) ?_
        refine AllReadyH.cons rfl (fun K hK => ?_) AllReadyH.nil
        go_simp
        refine hK.out _ _ ?_ (fun hHeld1 => ?_)
        · exact QQ.out
        clear hK K hHeld0
        try simp only [Act.put, List.setIfInBounds_toArray, List.set_cons_zero, List.set_cons_succ]
        refine wpAnyH_ready (rs := [15]) (by kernel_rfl) (by simp) ?_
        refine AllReadyH.cons rfl (fun K hK => ?_) AllReadyH.nil
        refine step_appN (ys := [(m + x, s)]) rfl (.tmp 23) (.tmp 37) rfl _ (by simp [Act.eval, Act.put]; try rfl) OA.out (by simp [Act.eval, Act.put]; try rfl) rfl AT.out (by simp; omega) ?_
        intro g9 c9 w9 hown9 hg9 hat9
        have O9 : Hid (OwnNm w9 w.heap.size g9 c9 (k + 1) (lat (ns.take (k + 1)) x)) := Lib.hid (by rw [HSN.out]; exact hown9)
        have G9 := Lib.hid hg9
        have QC : Hid (w9.heap[b]? = (wr.drew.alloc (.cells #[.int .i64 (m + x), .string s] 48)).heap[b]?) := Lib.hid (hg9.block b (by have := GB.out.1; simp; omega) (by intro e; injection e; exact GB.out.2 (by assumption)))
        clear hown9 hg9 hat9
        refine hK.out _ _ ?_ (fun hHeld2 => ?_)
        · refine ⟨?_, ?_⟩
          · simp only [World.cell?, QC.out]; exact QQ.out.1
          · simp only [World.cell?, QC.out]; exact QQ.out.2
        clear hK K hHeld1
        try simp only [Act.put, List.setIfInBounds_toArray, List.set_cons_zero, List.set_cons_succ]
        refine wpAnyH_take (i := 16) (v := ?_) rfl (by kernel_rfl) (by kernel_rfl) (by kernel_rfl) (fun _ _ _ h => h) (Or.inl ⟨by rfl, ?_⟩) hHeld2 ?_
        rotate_left 1
        · intro w hSw
          try dsimp only at hSw
          go_simp
          first | done | with_reducible rfl
        try simp only [Act.put, List.setIfInBounds_toArray, List.set_cons_zero, List.set_cons_succ]
        refine wpAnyH_done (by kernel_rfl) ?_ _
        --@GENAX
        have B9 : Hid (Below w.heap.size w w9) := Lib.hid (HB.out.drew.alloc HB.out.size _ |>.grown G9.out (by have := HB.out.size; simp; omega) (by rintro g' ⟨⟩; exact OwnV.le HO.out))
        go_wp2_with fail
        go_roundw
        case rel => exact ⟨k + 1, g9, c9, hk1, by go_num, rfl, O9.out, B9.out⟩
        case measure => simp [intOf]; omega
      · obtain rfl : k = ns.length := by omega
        have t0 := dec_f (show ¬ (ns.length : Int) < (ns.length : Int) by omega)
        have t1 := bne_f (show (ns.length : Int) = (ns.length : Int) from rfl)
        have e : ns.take ns.length = ns := List.take_length
        rw [e] at HO
        have HOO := HO.out.own
        have hll : (lat ns x).length = ns.length := lat_len ns x
        have HVL := Lib.hid (specRValid_any (some ⟨g, 0, none⟩) cc (lat ns x) wr (by rw [hll]; omega) (fun j hj => by
          rw [hll] at hj
          rw [lat_get hj]
          have := (HBD.out j hj).2
          show (ns.getD j Z2).2.size ≤ _
          omega) (fun _ => ⟨g, 0, rfl, HOO.lt, HOO.at⟩))
        rw [hll] at HVL
        cases hw : regB (lat ns x) with
        | true =>
          have hP : P = NewNtB w (lat ns x) true := by rw [← HP.out]; exact lateR_t (HLB.out.trans hw)
          rw [hw] at HVL
          clear HP
          subst hP
          have HOW := Lib.hid HOO
          have HLL := Lib.hid hll
          generalize lat ns x = ms at *
          clear hw e hlt HOO hll
          go_wp2_with (go_at_call 54; refine HVL.out.mono ?_; rintro e w2 ⟨rfl, rfl⟩)
          go_ret2
          exact ⟨g, cc, by rw [HLL.out]; rfl, HOW.out, HB.out⟩
        | false =>
          have hP : P = NewNtB w [] false := by rw [← HP.out]; exact lateR_f (HLB.out.trans hw)
          rw [hw] at HVL
          clear HP
          subst hP
          generalize lat ns x = ms at *
          clear hw e hlt HOO hll
          go_wp2_with (go_at_call 54; refine HVL.out.mono ?_; rintro e w2 ⟨rfl, rfl⟩)
          go_ret2
          exact ⟨wr.heap.size, 0, rfl, ownNm_empty wr w.heap.size HB.out.size, below_new' HB.out _⟩
end Go.Proofs.Ytebejpaghajhkaa
