/-
  Notes without which two registers agree: of the reference. No condition but lengths that fit.
-/
import Derived.Test.YtebejpaghajhkaaRg10
import Derived.Deep.RegionHeldLaw
namespace Go.Proofs.Ytebejpaghajhkaa
open Go.RowKit
set_option linter.unusedVariables false
set_option linter.unusedSimpArgs false

/-- 'append(out, src...)' of notes, at a step of a region that draws. -/
theorem step_appN {ops : Array Oper} {o : Oper} {a : Act} {K : Act → World → Prop} {Q : Exit → Act → World → Prop} {E : Prop} (hgd : o.guard = none) (s x : Operand)
    (ho : o.op = .call { callee := .builtin .append, args := #[s, x], argTypes := #[27, 27] }) (w : World) {base g c m b off d n : Nat} {xs ys : List NV} (hs : a.eval s = .slice (some ⟨g, 0, none⟩) m c)
    (hown : OwnNm w base g c m xs) (hx : a.eval x = .slice (some ⟨b, off, none⟩) n d) (hn : n = ys.length) (hat : AtNt w b off ys) (hm : m + ys.length ≤ 1099511627776)
    (h : ∀ g' c' w', OwnNm w' base g' c' (m + n) (xs ++ ys) → w.grownBy w' (some g) → (g' = g ∨ g' = w.heap.size) → K (a.put o.dst (.slice (some ⟨g', 0, none⟩) (m + n) c')) w') :
    if Region.wanted o (yielded ops a.tmps) = true then Oper.wp Try.prog o a w K Q else E := by
  have hw : Region.wanted o (yielded ops a.tmps) = true := by simp [Region.wanted, hgd]
  rw [if_pos hw]
  subst hn
  obtain ⟨i, hi, hz, hsz, hb'⟩ := slNt.info
  have hbl : g < w.heap.size := OwnV.lt hown
  have hle : base ≤ g := OwnV.le hown
  obtain ⟨v', w', hrun, h2, h3, h4, h5⟩ := run_append_own_at (P := Try.prog) w base 27 o.type 48 i _ 2 24 slNt.und hi hz hsz hb' slNt.zs slNt.pos _ m (ncells xs) hown ⟨b, off, none⟩ ys.length d (ncells ys) (ncells_length ys) (news_nt hat) (ncells_one ys) (by unfold maxLen; omega) (by omega) (by omega)
  unfold Oper.wp execOp
  simp only [ho, resolve, invoke, builtin, Sem.run_bind, Sem.run_pure, Result.andThen_ok, List.map_toArray, List.map_cons, List.map_nil, hs, hx, hrun]
  rw [← ncells_app] at h2
  rcases h2.2 with ⟨hv, _⟩ | ⟨g', cap', cur, hv, r⟩
  · have := (h4.1 hv).1
    cases this
  · subst hv
    refine h g' cap' w' h2 h3 ?_
    rcases h5 with h5 | h5
    · exact .inl (by simpa [Value.ownBlock] using h5)
    · exact .inr (by simpa [Value.ownBlock] using h5)
theorem AtNt.drop {w : World} {b off : Nat} {ns : List NV} (h : AtNt w b off ns) (n : Nat) : AtNt w b (off + n * 2) (ns.drop n) := fun k hk => by
  simp at hk
  have e : (ns.drop n).getD k Z2 = ns.getD (n + k) Z2 := by simp [List.getD, List.getElem?_drop]
  have := h (n + k) (by omega)
  rw [e, show off + n * 2 + k * 2 = off + (n + k) * 2 by omega]
  exact this
theorem AtNt.grown {w w' : World} {b off g : Nat} {ns : List NV} (h : AtNt w b off ns) (hg : w.grownBy w' (some g)) (hb : b < w.heap.size) (hne : b ≠ g) : AtNt w' b off ns := fun k hk => by
  have := h k hk
  have e := hg.block b hb (by intro e; injection e; exact hne (by assumption))
  simp only [World.cell?, e]
  exact this
/-- The numbers of the first k notes without which two lists agree. -/
def misS (xs ys : List NV) (sl : Int) : Nat → List Int
  | 0 => []
  | k + 1 => if (offV (wo xs k) ys sl).isSome then misS xs ys sl k ++ [(k : Int)] else misS xs ys sl k
theorem misS_len (xs ys : List NV) (sl : Int) (k : Nat) : (misS xs ys sl k).length ≤ k := by
  induction k with
  | zero => simp [misS]
  | succ k ih =>
    simp only [misS]
    split
    · simp only [List.length_append, List.length_cons, List.length_nil]; omega
    · omega
theorem misS_eq {xs ys : List NV} {sl : Int} (h : regB xs = true) (h' : regB ys = true) : ∀ k, k ≤ xs.length → misS xs ys sl k = misK xs ys sl k := by
  intro k
  induction k with
  | zero => intro _; rfl
  | succ k ih =>
    intro hk
    simp only [misS, misK]
    rw [ih (by omega), offV_yes (reg_wo h (by omega)) h']
theorem misS_no {xs ys : List NV} {sl : Int} (h' : regB ys = false) : ∀ k, misS xs ys sl k = [] := by
  intro k
  induction k with
  | zero => rfl
  | succ k ih =>
    simp only [misS]
    rw [offV_no (by rw [h']; simp), ih]; rfl
theorem misV_of {xs ys : List NV} {sl : Int} (h : regB xs = true) : misV xs ys sl = misS xs ys sl xs.length := by
  unfold misV
  cases h' : regB ys with
  | true => rw [misS_eq h h' _ (Nat.le_refl _), h]; rfl
  | false => rw [misS_no h']; simp
set_option maxRecDepth 100000 in
set_option maxHeartbeats 6400000 in
theorem specMissing_any (b off c : Nat) (A' : Option Addr) (c' : Nat) (xs ys : List NV) (sl : Int) (w : World) (hs : SzNt xs) (hs' : SzNt ys) (hc : xs.length ≤ c) (hc2 : c ≤ 9223372036854775807) (hb : b < w.heap.size) (ha : AtNt w b off xs) (hr' : RdNt w A' ys) :
    Calls Try.prog 36 #[.slice (some ⟨b, off, none⟩) xs.length c, .slice A' ys.length c', .int .i64 sl] w (NewInts w (misV xs ys sl)) := by
  have hx1 := hs.1
  have HVX := Lib.hid (fun W (k : Below w.heap.size w W) => specRValid_any (some ⟨b, off, none⟩) c xs W (by omega) hs.2 (fun _ => ⟨b, off, rfl, Nat.lt_of_lt_of_le hb k.size, ha.below k hb⟩))
  have HA := Lib.hid ha
  have HR' := Lib.hid hr'
  have HS := Lib.hid hs
  have HS' := Lib.hid hs'
  have O0 := Lib.hid (ownM_empty w w.heap.size (Nat.le_refl _))
  have B0 := Lib.hid (below_new w (.cells #[] 3))
  obtain ⟨V, hV⟩ : ∃ V, misV xs ys sl = V := ⟨_, rfl⟩
  rw [hV]
  have HV := Lib.hid hV
  clear ha hr' hs hs' hV
  cases hv : regB xs with
  | false =>
    have HVN : Hid (V = []) := Lib.hid (by rw [← HV.out]; unfold misV; rw [hv]; rfl)
    rw [hv] at HVX
    clear hv
    go_enter Try.func36, Try.ntmps36
    go_wp2_with fail
    generalize w.alloc (.cells #[] 3) = W1 at *
    go_loopw [7, 8] (fun o i wr => o = .slice (some ⟨w.heap.size, 0, none⟩) 0 0 ∧ i = .int .i64 0 ∧ W1 = wr) (fun _ _ _ => 0)
    case atStart => exact ⟨rfl, rfl, rfl⟩
    case round =>
      obtain ⟨rfl, rfl, rfl⟩ := hrel
      by_cases h0 : 0 < xs.length
      · have t0 := dec_t (show (0 : Int) < (xs.length : Int) by omega)
        have t0n := dec_t h0
        go_wp2_with (go_at_call 54; refine (HVX.out _ B0.out).mono ?_; rintro e w2 ⟨rfl, rfl⟩)
        go_ret
        exact ⟨w.heap.size, 0, by rw [HVN.out]; rfl, by rw [HVN.out]; exact O0.out.own, B0.out⟩
      · have t0 := dec_f (show ¬ (0 : Int) < (xs.length : Int) by omega)
        have t0n := dec_f h0
        go_wp2_with fail
        go_ret
        exact ⟨w.heap.size, 0, by rw [HVN.out]; rfl, by rw [HVN.out]; exact O0.out.own, B0.out⟩
  | true =>
    have hn30 := reg_len hv
    have HVN : Hid (V = misS xs ys sl xs.length) := Lib.hid (by rw [← HV.out]; exact misV_of hv)
    rw [hv] at HVX
    clear hv
    go_enter Try.func36, Try.ntmps36
    go_wp2_with fail
    generalize w.alloc (.cells #[] 3) = W1 at *
    go_loopw [7, 8] (fun o i wr => ∃ (k g d m : Nat), k ≤ xs.length ∧ i = .int .i64 k ∧ o = .slice (some ⟨g, 0, none⟩) m d ∧ m ≤ k ∧ OwnM wr w.heap.size g d m (misS xs ys sl k) ∧ Below w.heap.size w wr) (fun _ i _ => xs.length - (intOf i).toNat)
    case atStart => exact ⟨0, w.heap.size, 0, 0, Nat.zero_le _, rfl, rfl, Nat.le_refl _, O0.out, B0.out⟩
    case round =>
      clear O0 B0
      obtain ⟨k, g, d, m, hk, rfl, rfl, hmk, hown, hbel⟩ := hrel
      have HO := Lib.hid hown
      have HB := Lib.hid hbel
      clear hown hbel
      by_cases hlt : k < xs.length
      · have i1 : (k : Int) < (xs.length : Int) := by omega
        have u1 : IntKind.i64.wrap ((k : Int) + 1) = (k : Int) + 1 := IntWalk.i64_in _ (by omega)
        have i2 : (0 : Int) ≤ (k : Int) + 1 := by omega
        have i3 : ((k : Int) + 1).toNat = k + 1 := by omega
        have i4 : (k : Int) + 1 ≤ (xs.length : Int) := by omega
        have i5 : k + 1 ≤ xs.length := by omega
        have i6 : k ≤ c := by omega
        have i7 : (k : Int) ≤ (c : Int) := by omega
        have hwo : Hid (SzNt (wo xs k)) := Lib.hid ⟨by rw [wo_length hlt]; omega, fun j hj => by
          rw [wo_length hlt] at hj
          rw [wo_get hlt]
          split
          · exact HS.out.2 j (by omega)
          · exact HS.out.2 (j + 1) (by omega)⟩
        have HWL := Lib.hid (wo_length hlt)
        have O1 : Hid (OwnNm (wr.drew.alloc (.cells #[] 48)) wr.heap.size wr.heap.size 0 0 []) := Lib.hid (ownNm_empty wr.drew wr.heap.size (Nat.le_refl _))
        have HBW := Lib.hid (Nat.lt_of_lt_of_le hb HB.out.size)
        have A0 : Hid (AtNt (wr.drew.alloc (.cells #[] 48)) b off xs) := Lib.hid ((HA.out.below HB.out.drew hb).below (below_new wr.drew _) HBW.out)
        have A1 : Hid (AtNt (wr.drew.alloc (.cells #[] 48)) b off (xs.take k)) := Lib.hid (A0.out.take k)
        have HL1 : Hid (k = (xs.take k).length) := Lib.hid (by simp; omega)
        have HL2 : Hid (xs.length - (k + 1) = (xs.drop (k + 1)).length) := Lib.hid (by simp)
        have HLW : Hid (0 + k + (xs.length - (k + 1)) = (wo xs k).length) := Lib.hid (by rw [wo_length hlt]; omega)
        have HBG : Hid (b ≠ wr.heap.size) := Lib.hid (by have := HBW.out; omega)
        have HLN1 : (xs.take k).length ≤ 30 := by simp; omega
        have HLN2 : (xs.drop (k + 1)).length ≤ 30 := by simp; omega
        have hms : misS xs ys sl (k + 1) = if (offV (wo xs k) ys sl).isSome then misS xs ys sl k ++ [(k : Int)] else misS xs ys sl k := rfl
        have HBW3 : Hid (∀ W2 W3 g2, (wr.drew.alloc (.cells #[] 48)).grownBy W2 (some wr.heap.size) → W2.grownBy W3 (some g2) → wr.heap.size ≤ g2 → Below w.heap.size w W3 ∧ Below wr.heap.size wr W3) := Lib.hid (fun W2 W3 g2 h1 h2 h3 => by
          have e1 : Below wr.heap.size wr (wr.drew.alloc (.cells #[] 48)) := ((Below.refl wr.heap.size wr).drew).alloc (Nat.le_refl _) _
          have e2 := below_app e1 h1 (Nat.le_refl _)
          have e3 := below_app e2 h2 h3
          exact ⟨below_to HB.out e3 HB.out.size, e3⟩)
        by_cases hce : c = k + 1
        · subst hce
          have j1 : (k : Int) ≤ (k : Int) + 1 := by omega
          have j2 : (xs.length : Int) ≤ (k : Int) + 1 := by omega
          have HL2 : Hid (0 = (xs.drop (k + 1)).length) := Lib.hid (by simp; omega)
          have HLW : Hid (0 + k + 0 = (wo xs k).length) := Lib.hid (by rw [wo_length hlt]; omega)
          have HA2 : Hid (∀ W, (wr.drew.alloc (.cells #[] 48)).grownBy W (some wr.heap.size) → AtNt W b off (xs.drop (k + 1))) := Lib.hid (fun W hg k2 hk2 => by simp at hk2; omega)
          go_wp2_with (go_at_call 54; refine (HVX.out _ HB.out).mono ?_; rintro e w2 ⟨rfl, rfl⟩)
          --@GENA
          refine wp_region_held_drew (S := (fun _ => True)) (by kernel_rfl) ?_ (fun hHeld0 => ?_)
          · exact True.intro
          refine wpAnyH_take (i := 1) (v := ?_) rfl (by kernel_rfl) (by kernel_rfl) (by kernel_rfl) (fun _ _ _ h => h) (Or.inl ⟨by rfl, ?_⟩) hHeld0 ?_
          rotate_left 1
          · intro w hSw
            try dsimp only at hSw
            go_simp
            first | done | with_reducible rfl
          try simp only [Act.put, List.setIfInBounds_toArray, List.set_cons_zero, List.set_cons_succ]
          refine wpAnyH_take (i := 2) (v := ?_) rfl (by kernel_rfl) (by kernel_rfl) (by kernel_rfl) (fun _ _ _ h => h) (Or.inl ⟨by rfl, ?_⟩) hHeld0 ?_
          rotate_left 1
          · intro w hSw
            try dsimp only at hSw
            go_simp
            first | done | with_reducible rfl
          try simp only [Act.put, List.setIfInBounds_toArray, List.set_cons_zero, List.set_cons_succ]
          refine wpAnyH_take (i := 3) (v := ?_) rfl (by kernel_rfl) (by kernel_rfl) (by kernel_rfl) (fun _ _ _ h => h) (Or.inl ⟨by rfl, ?_⟩) hHeld0 ?_
          rotate_left 1
          · intro w hSw
            try dsimp only at hSw
            go_simp
            first | done | with_reducible rfl
          try simp only [Act.put, List.setIfInBounds_toArray, List.set_cons_zero, List.set_cons_succ]
          refine wpAnyH_take (i := 5) (v := ?_) rfl (by kernel_rfl) (by kernel_rfl) (by kernel_rfl) (fun _ _ _ h => h) (Or.inl ⟨by rfl, ?_⟩) hHeld0 ?_
          rotate_left 1
          · intro w hSw
            try dsimp only at hSw
            go_simp
            first | done | with_reducible rfl
          try simp only [Act.put, List.setIfInBounds_toArray, List.set_cons_zero, List.set_cons_succ]
          refine wpAnyH_take (i := 6) (v := ?_) rfl (by kernel_rfl) (by kernel_rfl) (by kernel_rfl) (fun _ _ _ h => h) (Or.inl ⟨by rfl, ?_⟩) hHeld0 ?_
          rotate_left 1
          · intro w hSw
            try dsimp only at hSw
            go_simp
            first | done | with_reducible rfl
          try simp only [Act.put, List.setIfInBounds_toArray, List.set_cons_zero, List.set_cons_succ]
          refine wpAnyH_take (i := 7) (v := ?_) rfl (by kernel_rfl) (by kernel_rfl) (by kernel_rfl) (fun _ _ _ h => h) (Or.inl ⟨by rfl, ?_⟩) hHeld0 ?_
          rotate_left 1
          · intro w hSw
            try dsimp only at hSw
            go_simp
            first | done | with_reducible rfl
          try simp only [Act.put, List.setIfInBounds_toArray, List.set_cons_zero, List.set_cons_succ]
          refine wpAnyH_take (i := 8) (v := ?_) rfl (by kernel_rfl) (by kernel_rfl) (by kernel_rfl) (fun _ _ _ h => h) (Or.inl ⟨by rfl, ?_⟩) hHeld0 ?_
          rotate_left 1
          · intro w hSw
            try dsimp only at hSw
            go_simp
            first | done | with_reducible rfl
          try simp only [Act.put, List.setIfInBounds_toArray, List.set_cons_zero, List.set_cons_succ]
          refine wpAnyH_ready (rs := [0]) (by kernel_rfl) (by simp) ?_
          refine AllReadyH.cons rfl (fun K hK => ?_) AllReadyH.nil
          go_simp
          refine hK.out _ _ ?_ (fun hHeld1 => ?_)
          · exact True.intro
          clear hK K hHeld0
          try simp only [Act.put, List.setIfInBounds_toArray, List.set_cons_zero, List.set_cons_succ]
          refine wpAnyH_ready (rs := [4]) (by kernel_rfl) (by simp) ?_
          refine AllReadyH.cons rfl (fun K hK => ?_) AllReadyH.nil
          refine step_appN rfl (.tmp 23) (.tmp 26) rfl _ (by simp [Act.eval, Act.put]; try rfl) O1.out (by simp [Act.eval, Act.put]; try rfl) HL1.out A1.out (by omega) ?_
          intro g2 c2 w2 hown2 hg2 hat2
          have O2 := Lib.hid hown2
          have A2 := Lib.hid (HA2.out _ hg2)
          have HG2 : Hid (wr.heap.size ≤ g2) := Lib.hid (OwnV.le hown2)
          have G2 := Lib.hid hg2
          clear hown2 hg2 hat2
          refine hK.out _ _ ?_ (fun hHeld2 => ?_)
          · exact True.intro
          clear hK K hHeld1
          try simp only [Act.put, List.setIfInBounds_toArray, List.set_cons_zero, List.set_cons_succ]
          refine wpAnyH_ready (rs := [9]) (by kernel_rfl) (by simp) ?_
          refine AllReadyH.cons rfl (fun K hK => ?_) AllReadyH.nil
          refine step_appN rfl (.tmp 27) (.tmp 31) rfl _ (by simp [Act.eval, Act.put]; try rfl) O2.out (by simp [Act.eval, Act.put]; try rfl) HL2.out A2.out (by omega) ?_
          intro g3 c3 w3 hown3 hg3 hat3
          rw [HLW.out] at hown3 ⊢
          have O3 : Hid (OwnN w3 wr.heap.size g3 c3 (wo xs k)) := Lib.hid (by have h := hown3; rw [List.nil_append] at h; exact h)
          have G3 := Lib.hid hg3
          clear hown3 hg3 hat3
          refine hK.out _ _ ?_ (fun hHeld3 => ?_)
          · exact True.intro
          clear hK K hHeld2
          try simp only [Act.put, List.setIfInBounds_toArray, List.set_cons_zero, List.set_cons_succ]
          refine wpAnyH_take (i := 10) (v := ?_) rfl (by kernel_rfl) (by kernel_rfl) (by kernel_rfl) (fun _ _ _ h => h) (Or.inl ⟨by rfl, ?_⟩) hHeld3 ?_
          rotate_left 1
          · intro w hSw
            try dsimp only at hSw
            go_simp
            first | done | with_reducible rfl
          try simp only [Act.put, List.setIfInBounds_toArray, List.set_cons_zero, List.set_cons_succ]
          refine wpAnyH_done (by kernel_rfl) ?_ _
          --@GENAX
          have HOF := Lib.hid (specOffset_any (some ⟨g3, 0, none⟩) A' c3 c' (wo xs k) ys sl w3 hwo.out HS'.out (fun _ => ⟨g3, 0, rfl, O3.out.lt, O3.out.at⟩) (HR'.out.below (HBW3.out w2 w3 g2 G2.out G3.out HG2.out).1))
          have HB3 := Lib.hid (HBW3.out w2 w3 g2 G2.out G3.out HG2.out)
          obtain ⟨vx, hvx⟩ := offE_is (offV (wo xs k) ys sl)
          rw [hvx] at HOF
          have O4 : Hid (OwnM w3 w.heap.size g d m (misS xs ys sl k)) := Lib.hid (OwnV.keep HO.out (HB3.out.2.block g HO.out.lt))
          have HMS := Lib.hid hms
          obtain ⟨vb, hvb⟩ : ∃ vb, (offV (wo xs k) ys sl).isSome = vb := ⟨_, rfl⟩
          rw [hvb] at HOF HMS
          clear hvx hvb hms
          go_wp2_with fail
          refine HOF.out.mono ?_
          rintro e w4 ⟨rfl, hb4⟩
          have B4 := Lib.hid (below_to HB3.out.1 hb4 HB3.out.1.size)
          have O5 : Hid (OwnM w4 w.heap.size g d m (misS xs ys sl k)) := Lib.hid (OwnV.below O4.out hb4 O4.out.lt)
          clear hb4
          cases vb with
          | true =>
            go_wp2_with (at_builtin; refine wpList_app1i rfl (.tmp 41) (.tmp 43) rfl _ rfl O5.out rfl (by omega) ?_; intro g9 c9 w9 hown9 hg9 hat9)
            have O9 : Hid (OwnM w9 w.heap.size g9 c9 (m + 1) (misS xs ys sl (k + 1))) := Lib.hid (by rw [HMS.out]; exact hown9)
            have B9 := Lib.hid (below_app B4.out hg9 O5.out.le)
            clear hown9 hg9 hat9
            go_wp2_with fail
            go_roundw
            case rel => exact ⟨k + 1, g9, c9, m + 1, by omega, by go_num, rfl, by omega, O9.out, B9.out⟩
            case measure => simp [intOf]; omega
          | false =>
            have O9 : Hid (OwnM w4 w.heap.size g d m (misS xs ys sl (k + 1))) := Lib.hid (by rw [HMS.out]; exact O5.out)
            go_wp2_with fail
            go_roundw
            case rel => exact ⟨k + 1, g, d, m, by omega, by go_num, rfl, by omega, O9.out, B4.out⟩
            case measure => simp [intOf]; omega
        · have HA2 : Hid (∀ W, (wr.drew.alloc (.cells #[] 48)).grownBy W (some wr.heap.size) → AtNt W b (off + (k + 1) * 2) (xs.drop (k + 1))) := Lib.hid (fun W hg => (A0.out.grown hg (by have := HBW.out; simp; omega) HBG.out).drop (k + 1))
          go_wp2_with (go_at_call 54; refine (HVX.out _ HB.out).mono ?_; rintro e w2 ⟨rfl, rfl⟩)
          --@GENB
          refine wp_region_held_drew (S := (fun _ => True)) (by kernel_rfl) ?_ (fun hHeld0 => ?_)
          · exact True.intro
          refine wpAnyH_take (i := 1) (v := ?_) rfl (by kernel_rfl) (by kernel_rfl) (by kernel_rfl) (fun _ _ _ h => h) (Or.inl ⟨by rfl, ?_⟩) hHeld0 ?_
          rotate_left 1
          · intro w hSw
            try dsimp only at hSw
            go_simp
            first | done | with_reducible rfl
          try simp only [Act.put, List.setIfInBounds_toArray, List.set_cons_zero, List.set_cons_succ]
          refine wpAnyH_take (i := 2) (v := ?_) rfl (by kernel_rfl) (by kernel_rfl) (by kernel_rfl) (fun _ _ _ h => h) (Or.inl ⟨by rfl, ?_⟩) hHeld0 ?_
          rotate_left 1
          · intro w hSw
            try dsimp only at hSw
            go_simp
            first | done | with_reducible rfl
          try simp only [Act.put, List.setIfInBounds_toArray, List.set_cons_zero, List.set_cons_succ]
          refine wpAnyH_take (i := 3) (v := ?_) rfl (by kernel_rfl) (by kernel_rfl) (by kernel_rfl) (fun _ _ _ h => h) (Or.inl ⟨by rfl, ?_⟩) hHeld0 ?_
          rotate_left 1
          · intro w hSw
            try dsimp only at hSw
            go_simp
            first | done | with_reducible rfl
          try simp only [Act.put, List.setIfInBounds_toArray, List.set_cons_zero, List.set_cons_succ]
          refine wpAnyH_take (i := 5) (v := ?_) rfl (by kernel_rfl) (by kernel_rfl) (by kernel_rfl) (fun _ _ _ h => h) (Or.inl ⟨by rfl, ?_⟩) hHeld0 ?_
          rotate_left 1
          · intro w hSw
            try dsimp only at hSw
            go_simp
            first | done | with_reducible rfl
          try simp only [Act.put, List.setIfInBounds_toArray, List.set_cons_zero, List.set_cons_succ]
          refine wpAnyH_take (i := 6) (v := ?_) rfl (by kernel_rfl) (by kernel_rfl) (by kernel_rfl) (fun _ _ _ h => h) (Or.inl ⟨by rfl, ?_⟩) hHeld0 ?_
          rotate_left 1
          · intro w hSw
            try dsimp only at hSw
            go_simp
            first | done | with_reducible rfl
          try simp only [Act.put, List.setIfInBounds_toArray, List.set_cons_zero, List.set_cons_succ]
          refine wpAnyH_take (i := 7) (v := ?_) rfl (by kernel_rfl) (by kernel_rfl) (by kernel_rfl) (fun _ _ _ h => h) (Or.inl ⟨by rfl, ?_⟩) hHeld0 ?_
          rotate_left 1
          · intro w hSw
            try dsimp only at hSw
            go_simp
            first | done | with_reducible rfl
          try simp only [Act.put, List.setIfInBounds_toArray, List.set_cons_zero, List.set_cons_succ]
          refine wpAnyH_take (i := 8) (v := ?_) rfl (by kernel_rfl) (by kernel_rfl) (by kernel_rfl) (fun _ _ _ h => h) (Or.inl ⟨by rfl, ?_⟩) hHeld0 ?_
          rotate_left 1
          · intro w hSw
            try dsimp only at hSw
            go_simp
            first | done | with_reducible rfl
          try simp only [Act.put, List.setIfInBounds_toArray, List.set_cons_zero, List.set_cons_succ]
          refine wpAnyH_ready (rs := [0]) (by kernel_rfl) (by simp) ?_
          refine AllReadyH.cons rfl (fun K hK => ?_) AllReadyH.nil
          go_simp
          refine hK.out _ _ ?_ (fun hHeld1 => ?_)
          · exact True.intro
          clear hK K hHeld0
          try simp only [Act.put, List.setIfInBounds_toArray, List.set_cons_zero, List.set_cons_succ]
          refine wpAnyH_ready (rs := [4]) (by kernel_rfl) (by simp) ?_
          refine AllReadyH.cons rfl (fun K hK => ?_) AllReadyH.nil
          refine step_appN rfl (.tmp 23) (.tmp 26) rfl _ (by simp [Act.eval, Act.put]; try rfl) O1.out (by simp [Act.eval, Act.put]; try rfl) HL1.out A1.out (by omega) ?_
          intro g2 c2 w2 hown2 hg2 hat2
          have O2 := Lib.hid hown2
          have A2 := Lib.hid (HA2.out _ hg2)
          have HG2 : Hid (wr.heap.size ≤ g2) := Lib.hid (OwnV.le hown2)
          have G2 := Lib.hid hg2
          clear hown2 hg2 hat2
          refine hK.out _ _ ?_ (fun hHeld2 => ?_)
          · exact True.intro
          clear hK K hHeld1
          try simp only [Act.put, List.setIfInBounds_toArray, List.set_cons_zero, List.set_cons_succ]
          refine wpAnyH_ready (rs := [9]) (by kernel_rfl) (by simp) ?_
          refine AllReadyH.cons rfl (fun K hK => ?_) AllReadyH.nil
          refine step_appN rfl (.tmp 27) (.tmp 31) rfl _ (by simp [Act.eval, Act.put]; try rfl) O2.out (by simp [Act.eval, Act.put]; try rfl) HL2.out A2.out (by omega) ?_
          intro g3 c3 w3 hown3 hg3 hat3
          rw [HLW.out] at hown3 ⊢
          have O3 : Hid (OwnN w3 wr.heap.size g3 c3 (wo xs k)) := Lib.hid (by have h := hown3; rw [List.nil_append] at h; exact h)
          have G3 := Lib.hid hg3
          clear hown3 hg3 hat3
          refine hK.out _ _ ?_ (fun hHeld3 => ?_)
          · exact True.intro
          clear hK K hHeld2
          try simp only [Act.put, List.setIfInBounds_toArray, List.set_cons_zero, List.set_cons_succ]
          refine wpAnyH_take (i := 10) (v := ?_) rfl (by kernel_rfl) (by kernel_rfl) (by kernel_rfl) (fun _ _ _ h => h) (Or.inl ⟨by rfl, ?_⟩) hHeld3 ?_
          rotate_left 1
          · intro w hSw
            try dsimp only at hSw
            go_simp
            first | done | with_reducible rfl
          try simp only [Act.put, List.setIfInBounds_toArray, List.set_cons_zero, List.set_cons_succ]
          refine wpAnyH_done (by kernel_rfl) ?_ _
          --@GENBX
          have HOF := Lib.hid (specOffset_any (some ⟨g3, 0, none⟩) A' c3 c' (wo xs k) ys sl w3 hwo.out HS'.out (fun _ => ⟨g3, 0, rfl, O3.out.lt, O3.out.at⟩) (HR'.out.below (HBW3.out w2 w3 g2 G2.out G3.out HG2.out).1))
          have HB3 := Lib.hid (HBW3.out w2 w3 g2 G2.out G3.out HG2.out)
          obtain ⟨vx, hvx⟩ := offE_is (offV (wo xs k) ys sl)
          rw [hvx] at HOF
          have O4 : Hid (OwnM w3 w.heap.size g d m (misS xs ys sl k)) := Lib.hid (OwnV.keep HO.out (HB3.out.2.block g HO.out.lt))
          have HMS := Lib.hid hms
          obtain ⟨vb, hvb⟩ : ∃ vb, (offV (wo xs k) ys sl).isSome = vb := ⟨_, rfl⟩
          rw [hvb] at HOF HMS
          clear hvx hvb hms
          go_wp2_with fail
          refine HOF.out.mono ?_
          rintro e w4 ⟨rfl, hb4⟩
          have B4 := Lib.hid (below_to HB3.out.1 hb4 HB3.out.1.size)
          have O5 : Hid (OwnM w4 w.heap.size g d m (misS xs ys sl k)) := Lib.hid (OwnV.below O4.out hb4 O4.out.lt)
          clear hb4
          cases vb with
          | true =>
            go_wp2_with (at_builtin; refine wpList_app1i rfl (.tmp 41) (.tmp 43) rfl _ rfl O5.out rfl (by omega) ?_; intro g9 c9 w9 hown9 hg9 hat9)
            have O9 : Hid (OwnM w9 w.heap.size g9 c9 (m + 1) (misS xs ys sl (k + 1))) := Lib.hid (by rw [HMS.out]; exact hown9)
            have B9 := Lib.hid (below_app B4.out hg9 O5.out.le)
            clear hown9 hg9 hat9
            go_wp2_with fail
            go_roundw
            case rel => exact ⟨k + 1, g9, c9, m + 1, by omega, by go_num, rfl, by omega, O9.out, B9.out⟩
            case measure => simp [intOf]; omega
          | false =>
            have O9 : Hid (OwnM w4 w.heap.size g d m (misS xs ys sl (k + 1))) := Lib.hid (by rw [HMS.out]; exact O5.out)
            go_wp2_with fail
            go_roundw
            case rel => exact ⟨k + 1, g, d, m, by omega, by go_num, rfl, by omega, O9.out, B4.out⟩
            case measure => simp [intOf]; omega
      · obtain rfl : k = xs.length := by omega
        have t0 := dec_f (show ¬ (xs.length : Int) < (xs.length : Int) by omega)
        have t0n := dec_f (show ¬ xs.length < xs.length by omega)
        have hl := OwnM.len HO.out
        have HL := Lib.hid hl
        clear hl
        go_wp2_with fail
        go_ret
        exact ⟨g, d, ret_sl (show m = V.length by rw [HVN.out]; exact HL.out), by rw [HVN.out]; exact HO.out.own, HB.out⟩
end Go.Proofs.Ytebejpaghajhkaa
