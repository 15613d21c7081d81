/-
  Registers' draws: two registers (l92Both; region 14 printed by gen_rg25.py), DrawRegisterSlack, DrawRegisterOffset. No condition.
-/
import Derived.Test.YtebejpaghajhkaaRg24
import Derived.Test.YtebejpaghajhkaaRg10
import Derived.Deep.RegionHeldLaw
namespace Go.Proofs.Ytebejpaghajhkaa
open Go.RowKit
set_option linter.unusedVariables false
set_option linter.unusedSimpArgs false

/-- 'append(out, src...)' of notes, at a step of a region that draws. -/
theorem step_appN {ops : Array Oper} {o : Oper} {a : Act} {K : Act → World → Prop} {Q : Exit → Act → World → Prop} {E : Prop} (hgd : o.guard = none) (s x : Operand)
    (ho : o.op = .call { callee := .builtin .append, args := #[s, x], argTypes := #[27, 27] }) (w : World) {base g c m b off d n : Nat} {xs ys : List NV} (hs : a.eval s = .slice (some ⟨g, 0, none⟩) m c)
    (hown : OwnNm w base g c m xs) (hx : a.eval x = .slice (some ⟨b, off, none⟩) n d) (hn : n = ys.length) (hat : AtNt w b off ys) (hm : m + ys.length ≤ 1099511627776)
    (h : ∀ g' c' w', OwnNm w' base g' c' (m + n) (xs ++ ys) → w.grownBy w' (some g) → (g' = g ∨ g' = w.heap.size) → K (a.put o.dst (.slice (some ⟨g', 0, none⟩) (m + n) c')) w') :
    if Region.wanted o (yielded ops a.tmps) = true then Oper.wp Try.prog o a w K Q else E := by
  have hw : Region.wanted o (yielded ops a.tmps) = true := by simp [Region.wanted, hgd]
  rw [if_pos hw]
  subst hn
  obtain ⟨i, hi, hz, hsz, hb'⟩ := slNt.info
  have hbl : g < w.heap.size := OwnV.lt hown
  have hle : base ≤ g := OwnV.le hown
  obtain ⟨v', w', hrun, h2, h3, h4, h5⟩ := run_append_own_at (P := Try.prog) w base 27 o.type 48 i _ 2 24 slNt.und hi hz hsz hb' slNt.zs slNt.pos _ m (ncells xs) hown ⟨b, off, none⟩ ys.length d (ncells ys) (ncells_length ys) (news_nt hat) (ncells_one ys) (by unfold maxLen; omega) (by omega) (by omega)
  unfold Oper.wp execOp
  simp only [ho, resolve, invoke, builtin, Sem.run_bind, Sem.run_pure, Result.andThen_ok, List.map_toArray, List.map_cons, List.map_nil, hs, hx, hrun]
  rw [← ncells_app] at h2
  rcases h2.2 with ⟨hv, _⟩ | ⟨g', cap', cur, hv, r⟩
  · have := (h4.1 hv).1
    cases this
  · subst hv
    refine h g' cap' w' h2 h3 ?_
    rcases h5 with h5 | h5
    · exact .inl (by simpa [Value.ownBlock] using h5)
    · exact .inr (by simpa [Value.ownBlock] using h5)
theorem AtNt.drop {w : World} {b off : Nat} {ns : List NV} (h : AtNt w b off ns) (n : Nat) : AtNt w b (off + n * 2) (ns.drop n) := fun k hk => by
  simp at hk
  have e : (ns.drop n).getD k Z2 = ns.getD (n + k) Z2 := by simp [List.getD, List.getElem?_drop]
  have := h (n + k) (by omega)
  rw [e, show off + n * 2 + k * 2 = off + (n + k) * 2 by omega]
  exact this
theorem AtNt.grown {w w' : World} {b off g : Nat} {ns : List NV} (h : AtNt w b off ns) (hg : w.grownBy w' (some g)) (hb : b < w.heap.size) (hne : b ≠ g) : AtNt w' b off ns := fun k hk => by
  have := h k hk
  have e := hg.block b hb (by intro e; injection e; exact hne (by assumption))
  simp only [World.cell?, e]
  exact this
/-- Short letters. -/
def Sz2 (ns : List NV) : Prop := ∀ k, k < ns.length → (ns.getD k Z2).2.size ≤ 2
theorem Sz2.nil : Sz2 [] := fun k hk => absurd hk (by simp)
theorem Sz2.of {ns : List NV} (h : BdN ns) : Sz2 ns := fun k hk => (h k hk).2
theorem Sz2.snoc {ns : List NV} {x : NV} (h : Sz2 ns) (hx : x.2.size ≤ 2) : Sz2 (ns ++ [x]) := by
  intro k hk
  simp only [List.length_append, List.length_cons, List.length_nil] at hk
  by_cases e : k < ns.length
  · rw [getD_snoc e]; exact h k e
  · have : k = ns.length := by omega
    subst this
    rw [getD_snoc_last]; exact hx
theorem Sz2.wo {ns : List NV} (h : Sz2 ns) {i : Nat} (hi : i < ns.length) : Sz2 (wo ns i) := by
  intro k hk
  rw [wo_length hi] at hk
  rw [wo_get hi]
  split
  · exact h k (by omega)
  · exact h (k + 1) (by omega)
theorem capN {w : World} {base g c : Nat} {ns : List NV} (h : OwnN w base g c ns) : ns.length ≤ c ∧ c ≤ 9223372036854775807 := by
  obtain ⟨_, cur, _, _, h1, h2, _⟩ := OwnV.parts h
  exact ⟨h1, h2⟩
/-- Two lists of notes, drawn. -/
def SomeTwo (w : World) (base R p : Nat) (e : Ending) (w' : World) : Prop := ∃ (xs bs : List NV) (ga ca gb cb q : Nat), e = .returned (.tuple #[.slice (some ⟨ga, 0, none⟩) xs.length ca, .slice (some ⟨gb, 0, none⟩) bs.length cb]) ∧ OwnN w' w.heap.size ga ca xs ∧ OwnN w' w.heap.size gb cb bs ∧ Sz2 xs ∧ Sz2 bs ∧ xs.length ≤ 33 ∧ bs.length ≤ 33 ∧ q ≤ p + 300 ∧ Rdr w' base R q ∧ w.grownBy w' (some R)
/-- The reader, the first list, the second one so far. -/
def Bm (w W : World) (base R q ga ca : Nat) (xs : List NV) (B gb cb : Nat) (bs : List NV) : Prop :=
  w.grownBy W (some R) ∧ Rdr W base R q ∧ OwnN W w.heap.size ga ca xs ∧ OwnN W B gb cb bs ∧ (ga < B ∧ w.heap.size ≤ B) ∧ R < w.heap.size
section
variable {w W W' : World} {base R q ga ca B gb cb : Nat} {xs bs : List NV}
theorem Bm.step (k : Bm w W base R q ga ca xs B gb cb bs) (b : Below W.heap.size W W') : Bm w W' base R q ga ca xs B gb cb bs := ⟨gbB k.1 b, rdB k.2.1 b, k.2.2.1.below b k.2.2.1.lt, k.2.2.2.1.below b k.2.2.2.1.lt, k.2.2.2.2⟩
theorem Bm.drew (k : Bm w W base R q ga ca xs B gb cb bs) : Bm w W.drew base R q ga ca xs B gb cb bs := ⟨gbD k.1, rdD k.2.1, k.2.2⟩
theorem Bm.pick {q' : Nat} (k : Bm w W base R q ga ca xs B gb cb bs) (b : W.grownBy W' (some R)) (hr : Rdr W' base R q') : Bm w W' base R q' ga ca xs B gb cb bs :=
  ⟨grownBy_trans k.1 b, hr, OwnV.grown k.2.2.1 b (by have := nrdr_ne k.2.1 k.2.2.1; intro e; injection e; omega), OwnV.grown k.2.2.2.1 b (by have := nrdr_ne k.2.1 k.2.2.2.1; intro e; injection e; omega), k.2.2.2.2⟩
theorem Bm.app {g' c' : Nat} {x : NV} (k : Bm w W base R q ga ca xs B gb cb bs) (b : W.grownBy W' (some gb)) (o : OwnNm W' B g' c' (bs.length + 1) (bs ++ [x])) : Bm w W' base R q ga ca xs B g' c' (bs ++ [x]) := by
  obtain ⟨h1, h2, h3, h4, h5, h6⟩ := k
  have n4 := h4.le
  exact ⟨gbG h1 b (by omega), h2.keep fun j hj => b.block j (by have := h2.lt; omega) (by intro e; injection e; omega), OwnV.grown h3 b (by intro e; injection e; omega), o.own, h5, h6⟩
theorem Bm.fin (h : Bm w W base R q ga ca xs B gb cb bs) : OwnN W w.heap.size gb cb bs := OwnV.mono h.2.2.2.1 (by have := h.2.2.2.1.le; have := h.2.2.2.2.1; omega)
end
set_option maxHeartbeats 6400000 in
theorem l92Both_any (base R p : Nat) (w : World) (hp : p ≤ 50000) (hr : Rdr w base R p) :
    Calls Try.prog 76 #[.pointer (some ⟨R, 0, none⟩)] w (SomeTwo w base R p) := by
  have H0 := Lib.hid hr
  clear hr
  go_enter Try.func76, Try.ntmps76
  go_wp2_with fail
  refine (l92Notes_any base R p _ (by omega) H0.out).mono ?_
  rintro e w1 ⟨xs, ga, ca, q, rfl, ho, hbd, hn, hq, hr1, hg1⟩
  have M1 : Hid (Nm w w1 base R q ga ca xs) := Lib.hid ⟨hg1, hr1, ho, H0.out.lt⟩
  have BD := Lib.hid hbd
  clear hr1 hg1 ho hbd H0
  go_wp2_with fail
  refine (pick_any base R q 6 _ (by omega) (by omega) M1.out.2.1).mono ?_
  rintro e w2 ⟨y, rfl, _, hr2, hg2⟩
  have M2 := Lib.hid (M1.out.pick hg2 hr2)
  clear hr2 hg2 M1
  by_cases h0 : y = 0
  · subst h0
    go_wp2_with fail
    refine (l92Notes_any base R (q + 1) _ (by omega) M2.out.2.1).mono ?_
    rintro e w3 ⟨bs, gb, cb, q3, rfl, ho3, hbd3, hn3, hq3, hr3, hg3⟩
    have F : Hid (OwnN w3 w.heap.size ga ca xs ∧ OwnN w3 w.heap.size gb cb bs ∧ Rdr w3 base R q3 ∧ w.grownBy w3 (some R)) := Lib.hid ⟨OwnV.grown M2.out.2.2.1 hg3 (by have := nrdr_ne M2.out.2.1 M2.out.2.2.1; intro e; injection e; omega), OwnV.mono ho3 (Nat.le_trans M2.out.1.size ho3.le), hr3, grownBy_trans M2.out.1 hg3⟩
    have BD3 := Lib.hid hbd3
    clear ho3 hbd3 hr3 hg3 M2
    go_wp2_with fail
    go_ret2
    exact ⟨xs, bs, ga, ca, gb, cb, q3, rfl, F.out.1, F.out.2.1, Sz2.of BD.out, Sz2.of BD3.out, hn, hn3, by omega, F.out.2.2.1, F.out.2.2.2⟩
  · have t1 := beq_f (show (y : Int) ≠ 0 by omega)
    have t1n : (y == 0) = false := by simpa using h0
    clear h0
    go_wp2_with fail
    refine (pick_any base R (q + 1) 13 _ (by omega) (by omega) M2.out.2.1).mono ?_
    rintro e w3 ⟨z, rfl, hz, hr3, hg3⟩
    have hz13 : z < 13 := by have := hz (by omega); omega
    have M3 := Lib.hid (M2.out.pick hg3 hr3)
    clear hr3 hg3 hz M2
    have i1 : IntKind.i64.wrap ((z : Int) - 6) = (z : Int) - 6 := IntWalk.i64_in _ (by omega)
    have B4 : Hid (Bm w (w3.alloc (.cells #[] 48)) base R (q + 1 + 1) ga ca xs w3.heap.size w3.heap.size 0 []) := Lib.hid ⟨gbA M3.out.1, rdA M3.out.2.1, OwnV.alloc M3.out.2.2.1 _, ownNm_empty w3 w3.heap.size (Nat.le_refl _), ⟨M3.out.2.2.1.lt, M3.out.1.size⟩, M3.out.2.2.2⟩
    clear M3
    go_upto_region 6 with fail
    obtain ⟨o, ho⟩ : ∃ o : Int, (z : Int) - 6 = o := ⟨_, rfl⟩
    have hob : -6 ≤ o ∧ o ≤ 6 := by omega
    rw [ho]
    generalize w3.alloc (.cells #[] 48) = W4 at *
    generalize w3.heap.size = B at *
    clear ho i1
    go_wp2_with fail
    go_loopw [6, 7, 8] (fun bo l i wr => ∃ (k x : Nat) (bs : List NV) (gb cb : Nat), k ≤ xs.length ∧ i = .int .i64 k ∧ l = .int .i64 x ∧ x ≤ 2100 ∧ bo = .slice (some ⟨gb, 0, none⟩) bs.length cb ∧ bs.length = k ∧ Sz2 bs ∧ Bm w wr base R (q + 1 + 1 + k) ga ca xs B gb cb bs) (fun _ _ i _ => xs.length - (intOf i).toNat)
    case atStart => exact ⟨0, 0, [], B, 0, by omega, rfl, rfl, by omega, rfl, rfl, Sz2.nil, B4.out⟩
    case round =>
      clear B4
      obtain ⟨k, x, bs, gb, cb, hk, rfl, rfl, hx, rfl, hbl, hsz, hM⟩ := hrel
      have M5 := Lib.hid hM
      have SZ := Lib.hid hsz
      have HBL := Lib.hid hbl
      have hb33 : bs.length ≤ 33 := by omega
      clear hM hsz hbl
      by_cases hlt : k < xs.length
      · have t0 := dec_t (show (k : Int) < (xs.length : Int) by omega)
        have hk1 : k + 1 ≤ xs.length := hlt
        have b0 := BD.out k hlt
        obtain ⟨c0, c1, _, _⟩ := M5.out.2.2.1.facts k hlt
        obtain ⟨⟨m, s⟩, hms⟩ : ∃ x, xs.getD k Z2 = x := ⟨_, rfl⟩
        rw [hms] at c0 c1 b0
        simp only at c0 c1 b0
        have i2 : (k : Int) < (xs.length : Int) := by omega
        have u1 : IntKind.i64.wrap (m + o) = m + o := IntWalk.i64_in _ (by omega)
        have GNE := Lib.hid (nrdr_ne M5.out.2.1 M5.out.2.2.1)
        have CL : Hid (∀ W, OwnN W w.heap.size ga ca xs → W.cell? ⟨ga, k * 2 + 1, none⟩ = some (.string s)) := Lib.hid (fun W h => by have := (h.facts k hlt).2.1; rw [hms] at this; exact this)
        have CE : Hid (∀ W, OwnN W w.heap.size ga ca xs → W.cell? ⟨ga, k * 2, none⟩ = some (.int .i64 m)) := Lib.hid (fun W h => by have := (h.facts k hlt).1; rw [hms] at this; exact this)
        clear hms hlt
        go_upto_region 10 with fail
        go_cut [7] (fun a7 wx => ∃ x' : Nat, a7 = .int .i64 x' ∧ x' ≤ 2100 ∧ Bm w wx base R (q + 1 + 1 + k + 1) ga ca xs B gb cb bs)
        case first =>
          go_region_held3 (fun w' => w'.cell? ⟨ga, k * 2, none⟩ = some (.int .i64 m)) (go_keep) ((go_at_call 51; go_must (go_fit (pick_any base R (q + 1 + 1 + k) 3 _ (by omega) (by omega) M5.out.drew.2.1); rintro e w6 ⟨v, rfl, hv, hr6, hg6⟩; have hv3 : v < 3 := (by have := hv (by omega); omega); have M6 := Lib.hid (M5.out.drew.pick hg6 hr6); have u2 : IntKind.i64.wrap (m + o + (v : Int)) = m + o + (v : Int) := IntWalk.i64_in _ (by omega); have u3 : IntKind.i64.wrap (m + o + (v : Int) - 1) = m + o + (v : Int) - 1 := IntWalk.i64_in _ (by omega); have e0 := CE.out w6 M6.out.2.2.1; clear hv hr6 hg6)))
          all_goals
            obtain ⟨x', hx', hxb⟩ : ∃ x' : Nat, max (x : Int) (m + o + (v : Int) - 1) = (x' : Int) ∧ x' ≤ 2100 := ⟨(max (x : Int) (m + o + (v : Int) - 1)).toNat, by omega, by omega⟩
            rw [hx']
            go_wp2_with fail
            go_meet
            exact ⟨x', rfl, hxb, M6.out⟩
        obtain ⟨x', rfl, hxb, hm7⟩ := hcut
        have M7 := Lib.hid hm7
        clear hm7 M5 c0 c1
        have c1 := CL.out wc M7.out.2.2.1
        have hs2 := b0.2
        go_wp2_with (at_builtin; refine wpList_app1 slNt rfl (.tmp 41) (.tmp 49) rfl _ rfl M7.out.2.2.2.1 rfl rfl (by simp [Value.oneCell']) (by unfold maxLen; omega) (by omega) ?_; intro g9 c9 w9 hown9 hg9 hat9)
        have M9 := Lib.hid (M7.out.app hg9 (x := ((x' : Int), s)) (g' := g9) (c' := c9) (by unfold OwnNm; rw [ncells_app]; simpa [ncells] using hown9))
        clear hown9 hg9 hat9 M7 c1
        go_roundw
        case rel => exact ⟨k + 1, x', bs ++ [((x' : Int), s)], g9, c9, hk1, by go_num, rfl, hxb, by simp, by simp [HBL.out], SZ.out.snoc hs2, M9.out⟩
        case measure => simp [intOf]; omega
      · obtain rfl : k = xs.length := by omega
        have t0 := dec_f (show ¬ (xs.length : Int) < (xs.length : Int) by omega)
        clear hlt
        by_cases h0 : bs.length = 0
        · have t2 := dec_f (show ¬ (0 : Int) < (bs.length : Int) by omega)
          have t2n := dec_f (show ¬ 0 < bs.length by omega)
          clear h0
          go_wp2_with fail
          go_ret2
          exact ⟨xs, bs, ga, ca, gb, cb, q + 1 + 1 + xs.length, rfl, M5.out.2.2.1, M5.out.fin, Sz2.of BD.out, SZ.out, hn, hb33, by omega, M5.out.2.1, M5.out.1⟩
        · have h0p : 0 < bs.length := by omega
          have t2 := dec_t (show (0 : Int) < (bs.length : Int) by omega)
          have t2n := dec_t h0p
          clear h0
          go_wp2_with fail
          refine (pick_any base R (q + 1 + 1 + xs.length) 3 _ (by omega) (by omega) M5.out.2.1).mono ?_
          rintro e w6 ⟨v, rfl, _, hr6, hg6⟩
          have M6 := Lib.hid (M5.out.pick hg6 hr6)
          clear hr6 hg6 M5
          by_cases hv0 : v = 0
          · subst hv0
            go_wp2_with fail
            refine (pick_any base R (q + 1 + 1 + xs.length + 1) bs.length _ (by omega) (by omega) M6.out.2.1).mono ?_
            rintro e w7 ⟨k, rfl, hk, hr7, hg7⟩
            have hkb : k < bs.length := by have := hk (by omega); omega
            have M7 := Lib.hid (M6.out.pick hg7 hr7)
            clear hr7 hg7 M6 hk
            obtain ⟨hcl, hcm⟩ := capN M7.out.2.2.2.1
            have i1 : (k : Int) < (bs.length : Int) := by omega
            have u1 : IntKind.i64.wrap ((k : Int) + 1) = (k : Int) + 1 := IntWalk.i64_in _ (by omega)
            have i2 : (0 : Int) ≤ (k : Int) + 1 := by omega
            have i3 : ((k : Int) + 1).toNat = k + 1 := by omega
            have i4 : (k : Int) + 1 ≤ (bs.length : Int) := by omega
            have i5 : k + 1 ≤ bs.length := by omega
            have i6 : k ≤ cb := by omega
            have i7 : (k : Int) ≤ (cb : Int) := by omega
            have O1 : Hid (OwnNm (w7.drew.alloc (.cells #[] 48)) w7.heap.size w7.heap.size 0 0 []) := Lib.hid (ownNm_empty w7.drew w7.heap.size (Nat.le_refl _))
            have HBW := Lib.hid M7.out.2.2.2.1.lt
            have A0 : Hid (AtNt (w7.drew.alloc (.cells #[] 48)) gb 0 bs) := Lib.hid ((M7.out.2.2.2.1.at).below ((Below.refl _ _).drew.alloc (Nat.le_refl _) _) HBW.out)
            have A1 : Hid (AtNt (w7.drew.alloc (.cells #[] 48)) gb 0 (bs.take k)) := Lib.hid (A0.out.take k)
            have HL1 : Hid (k = (bs.take k).length) := Lib.hid (by simp; omega)
            have HBG : Hid (gb ≠ w7.heap.size) := Lib.hid (by have := HBW.out; omega)
            have HLN1 : (bs.take k).length ≤ 33 := by simp; omega
            have HLN2 : (bs.drop (k + 1)).length ≤ 33 := by simp; omega
            have HWS := Lib.hid (SZ.out.wo hkb)
            have HWN : Hid ((wo bs k).length ≤ 33) := Lib.hid (by rw [wo_length hkb]; omega)
            have HBW3 : Hid (∀ W2 W3 g2, (w7.drew.alloc (.cells #[] 48)).grownBy W2 (some w7.heap.size) → W2.grownBy W3 (some g2) → w7.heap.size ≤ g2 → Below w7.heap.size w7 W3) := Lib.hid (fun W2 W3 g2 h1 h2 h3 => by
              have e1 : Below w7.heap.size w7 (w7.drew.alloc (.cells #[] 48)) := ((Below.refl w7.heap.size w7).drew).alloc (Nat.le_refl _) _
              exact below_app (below_app e1 h1 (Nat.le_refl _)) h2 h3)
            go_upto_region 14 with fail
            by_cases hce : cb = k + 1
            · subst hce
              have j1 : (k : Int) ≤ (k : Int) + 1 := by omega
              have j2 : (bs.length : Int) ≤ (k : Int) + 1 := by omega
              have HL2 : Hid (0 = (bs.drop (k + 1)).length) := Lib.hid (by simp; omega)
              have HLW : Hid (0 + k + 0 = (wo bs k).length) := Lib.hid (by rw [wo_length hkb]; omega)
              have HA2 : Hid (∀ W, (w7.drew.alloc (.cells #[] 48)).grownBy W (some w7.heap.size) → AtNt W gb 0 (bs.drop (k + 1))) := Lib.hid (fun W hg k2 hk2 => by simp at hk2; omega)
              --@GENA
              refine wp_region_held_drew (S := (fun _ => True)) (by kernel_rfl) ?_ (fun hHeld0 => ?_)
              · exact True.intro
              refine wpAnyH_take (i := 1) (v := ?_) rfl (by kernel_rfl) (by kernel_rfl) (by kernel_rfl) (fun _ _ _ h => h) (Or.inl ⟨by rfl, ?_⟩) hHeld0 ?_
              rotate_left 1
              · intro w hSw
                try dsimp only at hSw
                go_simp
                first | done | with_reducible rfl
              try simp only [Act.put, List.setIfInBounds_toArray, List.set_cons_zero, List.set_cons_succ]
              refine wpAnyH_take (i := 2) (v := ?_) rfl (by kernel_rfl) (by kernel_rfl) (by kernel_rfl) (fun _ _ _ h => h) (Or.inl ⟨by rfl, ?_⟩) hHeld0 ?_
              rotate_left 1
              · intro w hSw
                try dsimp only at hSw
                go_simp
                first | done | with_reducible rfl
              try simp only [Act.put, List.setIfInBounds_toArray, List.set_cons_zero, List.set_cons_succ]
              refine wpAnyH_take (i := 3) (v := ?_) rfl (by kernel_rfl) (by kernel_rfl) (by kernel_rfl) (fun _ _ _ h => h) (Or.inl ⟨by rfl, ?_⟩) hHeld0 ?_
              rotate_left 1
              · intro w hSw
                try dsimp only at hSw
                go_simp
                first | done | with_reducible rfl
              try simp only [Act.put, List.setIfInBounds_toArray, List.set_cons_zero, List.set_cons_succ]
              refine wpAnyH_take (i := 5) (v := ?_) rfl (by kernel_rfl) (by kernel_rfl) (by kernel_rfl) (fun _ _ _ h => h) (Or.inl ⟨by rfl, ?_⟩) hHeld0 ?_
              rotate_left 1
              · intro w hSw
                try dsimp only at hSw
                go_simp
                first | done | with_reducible rfl
              try simp only [Act.put, List.setIfInBounds_toArray, List.set_cons_zero, List.set_cons_succ]
              refine wpAnyH_take (i := 6) (v := ?_) rfl (by kernel_rfl) (by kernel_rfl) (by kernel_rfl) (fun _ _ _ h => h) (Or.inl ⟨by rfl, ?_⟩) hHeld0 ?_
              rotate_left 1
              · intro w hSw
                try dsimp only at hSw
                go_simp
                first | done | with_reducible rfl
              try simp only [Act.put, List.setIfInBounds_toArray, List.set_cons_zero, List.set_cons_succ]
              refine wpAnyH_take (i := 7) (v := ?_) rfl (by kernel_rfl) (by kernel_rfl) (by kernel_rfl) (fun _ _ _ h => h) (Or.inl ⟨by rfl, ?_⟩) hHeld0 ?_
              rotate_left 1
              · intro w hSw
                try dsimp only at hSw
                go_simp
                first | done | with_reducible rfl
              try simp only [Act.put, List.setIfInBounds_toArray, List.set_cons_zero, List.set_cons_succ]
              refine wpAnyH_take (i := 8) (v := ?_) rfl (by kernel_rfl) (by kernel_rfl) (by kernel_rfl) (fun _ _ _ h => h) (Or.inl ⟨by rfl, ?_⟩) hHeld0 ?_
              rotate_left 1
              · intro w hSw
                try dsimp only at hSw
                go_simp
                first | done | with_reducible rfl
              try simp only [Act.put, List.setIfInBounds_toArray, List.set_cons_zero, List.set_cons_succ]
              refine wpAnyH_ready (rs := [0]) (by kernel_rfl) (by simp) ?_
              refine AllReadyH.cons rfl (fun K hK => ?_) AllReadyH.nil
              go_simp
              refine hK.out _ _ ?_ (fun hHeld1 => ?_)
              · exact True.intro
              clear hK K hHeld0
              try simp only [Act.put, List.setIfInBounds_toArray, List.set_cons_zero, List.set_cons_succ]
              refine wpAnyH_ready (rs := [4]) (by kernel_rfl) (by simp) ?_
              refine AllReadyH.cons rfl (fun K hK => ?_) AllReadyH.nil
              refine step_appN rfl (.tmp 63) (.tmp 66) rfl _ (by simp [Act.eval, Act.put]; try rfl) O1.out (by simp [Act.eval, Act.put]; try rfl) HL1.out A1.out (by omega) ?_
              intro g2 c2 w2 hown2 hg2 hat2
              have O2 := Lib.hid hown2
              have A2 := Lib.hid (HA2.out _ hg2)
              have HG2 : Hid (w7.heap.size ≤ g2) := Lib.hid (OwnV.le hown2)
              have G2 := Lib.hid hg2
              clear hown2 hg2 hat2
              refine hK.out _ _ ?_ (fun hHeld2 => ?_)
              · exact True.intro
              clear hK K hHeld1
              try simp only [Act.put, List.setIfInBounds_toArray, List.set_cons_zero, List.set_cons_succ]
              refine wpAnyH_ready (rs := [9]) (by kernel_rfl) (by simp) ?_
              refine AllReadyH.cons rfl (fun K hK => ?_) AllReadyH.nil
              refine step_appN rfl (.tmp 67) (.tmp 71) rfl _ (by simp [Act.eval, Act.put]; try rfl) O2.out (by simp [Act.eval, Act.put]; try rfl) HL2.out A2.out (by omega) ?_
              intro g3 c3 w3 hown3 hg3 hat3
              rw [HLW.out] at hown3 ⊢
              have O3 : Hid (OwnN w3 w7.heap.size g3 c3 (wo bs k)) := Lib.hid (by have h := hown3; rw [List.nil_append] at h; exact h)
              have G3 := Lib.hid hg3
              clear hown3 hg3 hat3
              refine hK.out _ _ ?_ (fun hHeld3 => ?_)
              · exact True.intro
              clear hK K hHeld2
              try simp only [Act.put, List.setIfInBounds_toArray, List.set_cons_zero, List.set_cons_succ]
              refine wpAnyH_take (i := 10) (v := ?_) rfl (by kernel_rfl) (by kernel_rfl) (by kernel_rfl) (fun _ _ _ h => h) (Or.inl ⟨by rfl, ?_⟩) hHeld3 ?_
              rotate_left 1
              · intro w hSw
                try dsimp only at hSw
                go_simp
                first | done | with_reducible rfl
              try simp only [Act.put, List.setIfInBounds_toArray, List.set_cons_zero, List.set_cons_succ]
              refine wpAnyH_done (by kernel_rfl) ?_ _
              --@GENAX
              have M8 := Lib.hid (M7.out.step (HBW3.out w2 w3 g2 G2.out G3.out HG2.out))
              go_wp2_with fail
              go_ret2
              exact ⟨xs, wo bs k, ga, ca, g3, c3, _, rfl, M8.out.2.2.1, OwnV.mono O3.out (by have := M7.out.1.size; have := O3.out.le; omega), Sz2.of BD.out, HWS.out, hn, HWN.out, by omega, M8.out.2.1, M8.out.1⟩
            · have HL2 : Hid (bs.length - (k + 1) = (bs.drop (k + 1)).length) := Lib.hid (by simp)
              have HLW : Hid (0 + k + (bs.length - (k + 1)) = (wo bs k).length) := Lib.hid (by rw [wo_length hkb]; omega)
              have HA2 : Hid (∀ W, (w7.drew.alloc (.cells #[] 48)).grownBy W (some w7.heap.size) → AtNt W gb (0 + (k + 1) * 2) (bs.drop (k + 1))) := Lib.hid (fun W hg => (A0.out.grown hg (by have := HBW.out; simp; omega) HBG.out).drop (k + 1))
              rw [Nat.zero_add] at HA2
              --@GENB
              refine wp_region_held_drew (S := (fun _ => True)) (by kernel_rfl) ?_ (fun hHeld0 => ?_)
              · exact True.intro
              refine wpAnyH_take (i := 1) (v := ?_) rfl (by kernel_rfl) (by kernel_rfl) (by kernel_rfl) (fun _ _ _ h => h) (Or.inl ⟨by rfl, ?_⟩) hHeld0 ?_
              rotate_left 1
              · intro w hSw
                try dsimp only at hSw
                go_simp
                first | done | with_reducible rfl
              try simp only [Act.put, List.setIfInBounds_toArray, List.set_cons_zero, List.set_cons_succ]
              refine wpAnyH_take (i := 2) (v := ?_) rfl (by kernel_rfl) (by kernel_rfl) (by kernel_rfl) (fun _ _ _ h => h) (Or.inl ⟨by rfl, ?_⟩) hHeld0 ?_
              rotate_left 1
              · intro w hSw
                try dsimp only at hSw
                go_simp
                first | done | with_reducible rfl
              try simp only [Act.put, List.setIfInBounds_toArray, List.set_cons_zero, List.set_cons_succ]
              refine wpAnyH_take (i := 3) (v := ?_) rfl (by kernel_rfl) (by kernel_rfl) (by kernel_rfl) (fun _ _ _ h => h) (Or.inl ⟨by rfl, ?_⟩) hHeld0 ?_
              rotate_left 1
              · intro w hSw
                try dsimp only at hSw
                go_simp
                first | done | with_reducible rfl
              try simp only [Act.put, List.setIfInBounds_toArray, List.set_cons_zero, List.set_cons_succ]
              refine wpAnyH_take (i := 5) (v := ?_) rfl (by kernel_rfl) (by kernel_rfl) (by kernel_rfl) (fun _ _ _ h => h) (Or.inl ⟨by rfl, ?_⟩) hHeld0 ?_
              rotate_left 1
              · intro w hSw
                try dsimp only at hSw
                go_simp
                first | done | with_reducible rfl
              try simp only [Act.put, List.setIfInBounds_toArray, List.set_cons_zero, List.set_cons_succ]
              refine wpAnyH_take (i := 6) (v := ?_) rfl (by kernel_rfl) (by kernel_rfl) (by kernel_rfl) (fun _ _ _ h => h) (Or.inl ⟨by rfl, ?_⟩) hHeld0 ?_
              rotate_left 1
              · intro w hSw
                try dsimp only at hSw
                go_simp
                first | done | with_reducible rfl
              try simp only [Act.put, List.setIfInBounds_toArray, List.set_cons_zero, List.set_cons_succ]
              refine wpAnyH_take (i := 7) (v := ?_) rfl (by kernel_rfl) (by kernel_rfl) (by kernel_rfl) (fun _ _ _ h => h) (Or.inl ⟨by rfl, ?_⟩) hHeld0 ?_
              rotate_left 1
              · intro w hSw
                try dsimp only at hSw
                go_simp
                first | done | with_reducible rfl
              try simp only [Act.put, List.setIfInBounds_toArray, List.set_cons_zero, List.set_cons_succ]
              refine wpAnyH_take (i := 8) (v := ?_) rfl (by kernel_rfl) (by kernel_rfl) (by kernel_rfl) (fun _ _ _ h => h) (Or.inl ⟨by rfl, ?_⟩) hHeld0 ?_
              rotate_left 1
              · intro w hSw
                try dsimp only at hSw
                go_simp
                first | done | with_reducible rfl
              try simp only [Act.put, List.setIfInBounds_toArray, List.set_cons_zero, List.set_cons_succ]
              refine wpAnyH_ready (rs := [0]) (by kernel_rfl) (by simp) ?_
              refine AllReadyH.cons rfl (fun K hK => ?_) AllReadyH.nil
              go_simp
              refine hK.out _ _ ?_ (fun hHeld1 => ?_)
              · exact True.intro
              clear hK K hHeld0
              try simp only [Act.put, List.setIfInBounds_toArray, List.set_cons_zero, List.set_cons_succ]
              refine wpAnyH_ready (rs := [4]) (by kernel_rfl) (by simp) ?_
              refine AllReadyH.cons rfl (fun K hK => ?_) AllReadyH.nil
              refine step_appN rfl (.tmp 63) (.tmp 66) rfl _ (by simp [Act.eval, Act.put]; try rfl) O1.out (by simp [Act.eval, Act.put]; try rfl) HL1.out A1.out (by omega) ?_
              intro g2 c2 w2 hown2 hg2 hat2
              have O2 := Lib.hid hown2
              have A2 := Lib.hid (HA2.out _ hg2)
              have HG2 : Hid (w7.heap.size ≤ g2) := Lib.hid (OwnV.le hown2)
              have G2 := Lib.hid hg2
              clear hown2 hg2 hat2
              refine hK.out _ _ ?_ (fun hHeld2 => ?_)
              · exact True.intro
              clear hK K hHeld1
              try simp only [Act.put, List.setIfInBounds_toArray, List.set_cons_zero, List.set_cons_succ]
              refine wpAnyH_ready (rs := [9]) (by kernel_rfl) (by simp) ?_
              refine AllReadyH.cons rfl (fun K hK => ?_) AllReadyH.nil
              refine step_appN rfl (.tmp 67) (.tmp 71) rfl _ (by simp [Act.eval, Act.put]; try rfl) O2.out (by simp [Act.eval, Act.put]; try rfl) HL2.out A2.out (by omega) ?_
              intro g3 c3 w3 hown3 hg3 hat3
              rw [HLW.out] at hown3 ⊢
              have O3 : Hid (OwnN w3 w7.heap.size g3 c3 (wo bs k)) := Lib.hid (by have h := hown3; rw [List.nil_append] at h; exact h)
              have G3 := Lib.hid hg3
              clear hown3 hg3 hat3
              refine hK.out _ _ ?_ (fun hHeld3 => ?_)
              · exact True.intro
              clear hK K hHeld2
              try simp only [Act.put, List.setIfInBounds_toArray, List.set_cons_zero, List.set_cons_succ]
              refine wpAnyH_take (i := 10) (v := ?_) rfl (by kernel_rfl) (by kernel_rfl) (by kernel_rfl) (fun _ _ _ h => h) (Or.inl ⟨by rfl, ?_⟩) hHeld3 ?_
              rotate_left 1
              · intro w hSw
                try dsimp only at hSw
                go_simp
                first | done | with_reducible rfl
              try simp only [Act.put, List.setIfInBounds_toArray, List.set_cons_zero, List.set_cons_succ]
              refine wpAnyH_done (by kernel_rfl) ?_ _
              --@GENBX
              have M8 := Lib.hid (M7.out.step (HBW3.out w2 w3 g2 G2.out G3.out HG2.out))
              go_wp2_with fail
              go_ret2
              exact ⟨xs, wo bs k, ga, ca, g3, c3, _, rfl, M8.out.2.2.1, OwnV.mono O3.out (by have := M7.out.1.size; have := O3.out.le; omega), Sz2.of BD.out, HWS.out, hn, HWN.out, by omega, M8.out.2.1, M8.out.1⟩
          · have t3 := beq_f (show (v : Int) ≠ 0 by omega)
            have t3n : (v == 0) = false := by simpa using hv0
            clear hv0
            go_wp2_with fail
            go_ret2
            exact ⟨xs, bs, ga, ca, gb, cb, q + 1 + 1 + xs.length + 1, rfl, M6.out.2.2.1, M6.out.fin, Sz2.of BD.out, SZ.out, hn, hb33, by omega, M6.out.2.1, M6.out.1⟩

/-- What drawing two lists leaves. -/
def DTwo (w : World) (e : Ending) (w' : World) : Prop := ∃ (xs bs : List NV) (ga ca gb cb : Nat), e = .returned (.tuple #[.slice (some ⟨ga, 0, none⟩) xs.length ca, .slice (some ⟨gb, 0, none⟩) bs.length cb]) ∧ OwnN w' w.heap.size ga ca xs ∧ OwnN w' w.heap.size gb cb bs ∧ Sz2 xs ∧ Sz2 bs ∧ xs.length ≤ 33 ∧ bs.length ≤ 33 ∧ Below w.heap.size w w'
set_option maxHeartbeats 1600000 in
theorem draw_rslack (A : Option Addr) (c m : Nat) (w : World) (hmc : m ≤ c) (hc : c ≤ 9223372036854775807) (hr : ByteRow w w.heap.size A m) :
    Calls Try.prog 45 #[.slice A m c] w (DTwo w) := by
  have HO := Lib.hid (open_any w.heap.size A m c w (Nat.le_refl _) hmc hc hr)
  clear hr
  go_enter Try.func45, Try.ntmps45
  go_wp2_with fail
  refine HO.out.mono ?_
  rintro e w2 ⟨rfl, hr2, hb2⟩
  have R2 := Lib.hid hr2
  have B2 := Lib.hid hb2
  clear hr2 hb2 HO
  go_wp2_with fail
  refine (l92Both_any w.heap.size w.heap.size 0 w2 (by omega) R2.out).mono ?_
  rintro e w3 ⟨xs, bs, ga, ca, gb, cb, q, rfl, ho, ho', hsz, hsz', hn, hn', hq, hr3, hg3⟩
  have F : Hid (OwnN w3 w.heap.size ga ca xs ∧ OwnN w3 w.heap.size gb cb bs ∧ Below w.heap.size w w3) := Lib.hid ⟨OwnV.mono ho (Nat.le_trans B2.out.size ho.le), OwnV.mono ho' (Nat.le_trans B2.out.size ho'.le), below_app B2.out hg3 (Nat.le_refl _)⟩
  have SZ := Lib.hid (And.intro hsz hsz')
  clear ho ho' hsz hsz' hr3 hg3 R2 B2
  go_wp2_with fail
  go_ret2
  exact ⟨xs, bs, ga, ca, gb, cb, rfl, F.out.1, F.out.2.1, SZ.out.1, SZ.out.2, hn, hn', F.out.2.2⟩

/-- What drawing two lists and a slack leaves. -/
def DTwoK (w : World) (e : Ending) (w' : World) : Prop := ∃ (xs bs : List NV) (ga ca gb cb : Nat) (x : Int), e = .returned (.tuple #[.slice (some ⟨ga, 0, none⟩) xs.length ca, .slice (some ⟨gb, 0, none⟩) bs.length cb, .int .i64 x]) ∧ OwnN w' w.heap.size ga ca xs ∧ OwnN w' w.heap.size gb cb bs ∧ Sz2 xs ∧ Sz2 bs ∧ xs.length ≤ 33 ∧ bs.length ≤ 33 ∧ (-1 ≤ x ∧ x ≤ 6) ∧ Below w.heap.size w w'
set_option maxHeartbeats 1600000 in
theorem draw_roffset (A : Option Addr) (c m : Nat) (w : World) (hmc : m ≤ c) (hc : c ≤ 9223372036854775807) (hr : ByteRow w w.heap.size A m) :
    Calls Try.prog 42 #[.slice A m c] w (DTwoK w) := by
  have HO := Lib.hid (open_any w.heap.size A m c w (Nat.le_refl _) hmc hc hr)
  clear hr
  go_enter Try.func42, Try.ntmps42
  go_wp2_with fail
  refine HO.out.mono ?_
  rintro e w2 ⟨rfl, hr2, hb2⟩
  have R2 := Lib.hid hr2
  have B2 := Lib.hid hb2
  clear hr2 hb2 HO
  go_wp2_with fail
  refine (l92Both_any w.heap.size w.heap.size 0 w2 (by omega) R2.out).mono ?_
  rintro e w3 ⟨xs, bs, ga, ca, gb, cb, q, rfl, ho, ho', hsz, hsz', hn, hn', hq, hr3, hg3⟩
  have F : Hid (OwnN w3 w.heap.size ga ca xs ∧ OwnN w3 w.heap.size gb cb bs ∧ Below w.heap.size w w3) := Lib.hid ⟨OwnV.mono ho (Nat.le_trans B2.out.size ho.le), OwnV.mono ho' (Nat.le_trans B2.out.size ho'.le), below_app B2.out hg3 (Nat.le_refl _)⟩
  have SZ := Lib.hid (And.intro hsz hsz')
  have R3 := Lib.hid hr3
  clear ho ho' hsz hsz' hr3 hg3 R2 B2
  go_wp2_with fail
  refine (pick_any w.heap.size w.heap.size q 8 w3 (by omega) (by omega) R3.out).mono ?_
  rintro e w4 ⟨x, rfl, hx, hr4, hg4⟩
  have hx8 : x < 8 := by have := hx (by omega); omega
  have F4 : Hid (OwnN w4 w.heap.size ga ca xs ∧ OwnN w4 w.heap.size gb cb bs ∧ Below w.heap.size w w4) := Lib.hid ⟨OwnV.grown F.out.1 hg4 (by have := nrdr_ne R3.out F.out.1; intro e; injection e; omega), OwnV.grown F.out.2.1 hg4 (by have := nrdr_ne R3.out F.out.2.1; intro e; injection e; omega), below_app F.out.2.2 hg4 (Nat.le_refl _)⟩
  have i1 : IntKind.i64.wrap ((x : Int) - 1) = (x : Int) - 1 := IntWalk.i64_in _ (by omega)
  clear hx hr4 hg4 F R3
  go_wp2_with fail
  refine bodyPost_ret (v := .tuple #[.slice (some ⟨ga, 0, none⟩) xs.length ca, .slice (some ⟨gb, 0, none⟩) bs.length cb, .int .i64 ((x : Int) - 1)]) (by simp [results, Try.results42, go_sem]) rfl ?_
  exact ⟨xs, bs, ga, ca, gb, cb, (x : Int) - 1, rfl, F4.out.1, F4.out.2.1, SZ.out.1, SZ.out.2, hn, hn', by omega, F4.out.2.2⟩
end Go.Proofs.Ytebejpaghajhkaa
