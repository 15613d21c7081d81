/-
  Registers: the least offset, the least slack, of the reference. No condition but lengths that fit.
-/
import Derived.Test.YtebejpaghajhkaaRg6
namespace Go.Proofs.Ytebejpaghajhkaa
open Go.RowKit
set_option linter.unusedVariables false
set_option linter.unusedSimpArgs false

theorem qt_refl (w : World) : Qt w w := ⟨0, rfl⟩
theorem qt_tr {a b c : World} (h : Qt a b) (k : Qt b c) : Qt a c := by
  obtain ⟨m, rfl⟩ := h
  obtain ⟨n, rfl⟩ := k
  exact qtN ⟨m, rfl⟩ n
set_option maxRecDepth 100000 in
set_option maxHeartbeats 1600000 in
theorem specOffset_any (A A' : Option Addr) (c c' : Nat) (xs ys : List NV) (sl : Int) (w : World) (hs : SzNt xs) (hs' : SzNt ys) (hr : RdNt w A xs) (hr' : RdNt w A' ys) :
    Calls Try.prog 26 #[.slice A xs.length c, .slice A' ys.length c', .int .i64 sl] w (RetB w (offE (offV xs ys sl))) := by
  have HVX := Lib.hid (specRValid_any A c xs w (by have := hs.1; omega) hs.2 hr)
  have HVY := Lib.hid (specRValid_any A' c' ys w (by have := hs'.1; omega) hs'.2 hr')
  cases hv : regB xs with
  | false =>
    rw [hv] at HVX
    rw [offV_no (by rw [hv]; rfl), offE_none]
    clear hr hr' hs hs' hv HVY
    go_enter Try.func26, Try.ntmps26
    go_wp2_with fail
    refine HVX.out.mono ?_
    rintro e w1 ⟨rfl, rfl⟩
    go_wp2_with fail
    go_ret2
    exact ⟨rfl, Below.refl _ _⟩
  | true =>
  rw [hv] at HVX
  cases hv' : regB ys with
  | false =>
    rw [hv'] at HVY
    rw [offV_no (by rw [hv']; simp), offE_none]
    clear hr hr' hs hs' hv hv'
    go_enter Try.func26, Try.ntmps26
    go_wp2_with fail
    refine HVX.out.mono ?_
    rintro e w1 ⟨rfl, rfl⟩
    go_wp2_with fail
    refine HVY.out.mono ?_
    rintro e w1 ⟨rfl, rfl⟩
    go_wp2_with fail
    go_ret2
    exact ⟨rfl, Below.refl _ _⟩
  | true =>
  rw [hv'] at HVY
  rw [offV_yes hv hv']
  have HTX := Lib.hid (l5Text_any A c xs w hv hr)
  have HTY := Lib.hid (l5Text_any A' c' ys w hv' hr')
  by_cases ht : txt xs = txt ys
  · rw [ht] at HTX
    have hl : xs.length = ys.length := by rw [← txt_size hv, ht, txt_size hv']
    have HTT := Lib.hid ht
    obtain ⟨Y, hY⟩ : ∃ Y, txt ys = Y := ⟨_, rfl⟩
    rw [hY] at HTX HTY
    have H6 := Lib.hid (fun w => l6In_any sl 0 5 w)
    by_cases hsl : 0 ≤ sl ∧ sl ≤ 5
    · have hoj : offJ xs ys sl = firstF (fun j => fitB xs ys sl ((j : Int) - 30)) 61 := by unfold offJ; rw [if_pos (inB_true hsl)]
      rw [inB_true hsl] at H6
      have HAG := Lib.hid (fun (o : Int) W (k : Qt w W) (ho : -30 ≤ o ∧ o ≤ 30) => l5Agree_any A c A' c' xs ys o sl W hv hv' hl ho hsl (hr.below (k.below _)) (hr'.below (k.below _)))
      have HFIT : Hid (∀ o, fitB xs ys sl o = agree xs ys o sl) := Lib.hid (fun o => by unfold fitB; rw [dec_t ht]; rfl)
      obtain ⟨O, hO⟩ : ∃ O, offJ xs ys sl = O := ⟨_, rfl⟩
      rw [hO] at hoj ⊢
      have HO := Lib.hid hoj
      clear hr hr' hs hs' hv hv' ht hl hY hO hoj
      go_enter Try.func26, Try.ntmps26
      go_wp2_with fail
      refine HVX.out.mono ?_
      rintro e w1 ⟨rfl, rfl⟩
      go_wp2_with fail
      refine HVY.out.mono ?_
      rintro e w1 ⟨rfl, rfl⟩
      go_wp2_with fail
      refine HTX.out.mono ?_
      rintro e w1 ⟨rfl, rfl⟩
      go_wp2_with fail
      refine HTY.out.mono ?_
      rintro e w1 ⟨rfl, rfl⟩
      go_wp2_with fail
      refine (H6.out _).mono ?_
      rintro e w1 ⟨rfl, rfl⟩
      go_wp2_with fail
      go_loopw [8] (fun v wr => ∃ (j : Nat) (o : Int), j ≤ 61 ∧ v = .int .i64 o ∧ Hid (o = (j : Int) - 30) ∧ (-30 ≤ o ∧ o ≤ 31) ∧ Hid (∀ i, i < j → fitB xs ys sl ((i : Int) - 30) = false) ∧ Qt w wr) (fun v _ => (31 - intOf v).toNat)
      case atStart => exact ⟨0, -30, by omega, rfl, Lib.hid (by omega), by omega, Lib.hid (fun i hi => absurd hi (by omega)), qt_refl _⟩
      case round =>
        obtain ⟨j, o, hj, rfl, HOE, hob, HA, hq⟩ := hrel
        have HQ := Lib.hid hq
        clear hq
        by_cases hlt : o ≤ 30
        · have t3 := dec_t hlt
          have hf := HAG.out o wr HQ.out ⟨hob.1, hlt⟩
          rw [← HFIT.out o] at hf
          have HJ := Lib.hid (show j < 61 by have := HOE.out; omega)
          obtain ⟨b, hb⟩ : ∃ b, fitB xs ys sl o = b := ⟨_, rfl⟩
          rw [hb] at hf
          have HFF := Lib.hid hf
          cases b with
          | true =>
            have HOO : Hid (O = some j) := Lib.hid (by rw [HO.out]; exact firstF_at HJ.out (by rw [← HOE.out]; exact hb) HA.out)
            clear hf hb
            go_wp2_with fail
            refine HFF.out.mono ?_
            rintro e w2 ⟨rfl, hq2⟩
            have Q2 := Lib.hid (qt_tr HQ.out hq2)
            clear hq2
            go_wp2_with fail
            go_ret2
            exact ⟨congrArg Ending.returned (show Value.tuple #[.int .i64 o, .bool true] = offE O by rw [HOO.out, offE_some, ← HOE.out]), Q2.out.below _⟩
          | false =>
            have HA2 : Hid (∀ i, i < j + 1 → fitB xs ys sl ((i : Int) - 30) = false) := Lib.hid (fun i hi => by
              rcases Nat.lt_succ_iff_lt_or_eq.1 hi with hi | rfl
              · exact HA.out i hi
              · rw [← HOE.out]; exact hb)
            clear hf hb
            go_wp2_with fail
            refine HFF.out.mono ?_
            rintro e w2 ⟨rfl, hq2⟩
            have Q2 := Lib.hid (qt_tr HQ.out hq2)
            clear hq2
            go_wp2_with fail
            go_roundw
            case rel => exact ⟨j + 1, o + 1, by have := HJ.out; omega, by go_num, Lib.hid (by have := HOE.out; omega), by omega, HA2, Q2.out⟩
            case measure => simp [intOf]; omega
        · have t3 := dec_f hlt
          have HJ := Lib.hid (show j = 61 by have := HOE.out; omega)
          have HOO : Hid (O = none) := Lib.hid (by rw [HO.out, firstF_none]; intro i hi; exact HA.out i (by have := HJ.out; omega))
          go_wp2_with fail
          go_ret2
          exact ⟨congrArg Ending.returned (show Value.tuple #[.int .i64 0, .bool false] = offE O by rw [HOO.out, offE_none]), HQ.out.below _⟩
    · have hf : inB 0 5 sl = false := by by_cases h : sl < 0; exact inB_false (.inl h); exact inB_false (.inr (by omega))
      rw [offJ_no hf, offE_none]
      rw [hf] at H6
      clear hr hr' hs hs' hv hv' ht hl hY hf hsl
      go_enter Try.func26, Try.ntmps26
      go_wp2_with fail
      refine HVX.out.mono ?_
      rintro e w1 ⟨rfl, rfl⟩
      go_wp2_with fail
      refine HVY.out.mono ?_
      rintro e w1 ⟨rfl, rfl⟩
      go_wp2_with fail
      refine HTX.out.mono ?_
      rintro e w1 ⟨rfl, rfl⟩
      go_wp2_with fail
      refine HTY.out.mono ?_
      rintro e w1 ⟨rfl, rfl⟩
      go_wp2_with fail
      refine (H6.out _).mono ?_
      rintro e w1 ⟨rfl, rfl⟩
      go_wp2_with fail
      go_ret2
      exact ⟨rfl, Below.refl _ _⟩
  · rw [offJ_text ht, offE_none]
    have hne : ((txt xs).toList == (txt ys).toList) = false := by rw [beq_ba]; exact dec_f ht
    obtain ⟨X, hX⟩ : ∃ X, txt xs = X := ⟨_, rfl⟩
    obtain ⟨Y, hY⟩ : ∃ Y, txt ys = Y := ⟨_, rfl⟩
    rw [hX, hY] at hne
    rw [hX] at HTX
    rw [hY] at HTY
    clear hr hr' hs hs' hv hv' ht hX hY
    go_enter Try.func26, Try.ntmps26
    go_wp2_with fail
    refine HVX.out.mono ?_
    rintro e w1 ⟨rfl, rfl⟩
    go_wp2_with fail
    refine HVY.out.mono ?_
    rintro e w1 ⟨rfl, rfl⟩
    go_wp2_with fail
    refine HTX.out.mono ?_
    rintro e w1 ⟨rfl, rfl⟩
    go_wp2_with fail
    refine HTY.out.mono ?_
    rintro e w1 ⟨rfl, rfl⟩
    go_wp2_with fail
    go_ret2
    exact ⟨rfl, Below.refl _ _⟩

theorem offV_isSome {xs ys : List NV} {k : Nat} (h : regB xs = true) (h' : regB ys = true) : offV xs ys (k : Int) = offJ xs ys (k : Int) := offV_yes h h'
theorem slV_first (xs ys : List NV) : slV xs ys = firstF (fun k => (offV xs ys (k : Int)).isSome) 6 := by
  by_cases h : (regB xs && regB ys) = true
  · rw [Bool.and_eq_true] at h
    rw [slV_yes h.1 h.2]
    unfold slJ
    simp only [offV_yes h.1 h.2]
  · have h' : (regB xs && regB ys) = false := by simpa using h
    rw [slV_no h', eq_comm, firstF_none]
    intro j _
    rw [offV_no h']; rfl
set_option maxRecDepth 100000 in
set_option maxHeartbeats 1600000 in
theorem specSlack_any (A A' : Option Addr) (c c' : Nat) (xs ys : List NV) (w : World) (hs : SzNt xs) (hs' : SzNt ys) (hr : RdNt w A xs) (hr' : RdNt w A' ys) :
    Calls Try.prog 28 #[.slice A xs.length c, .slice A' ys.length c'] w (RetB w (slE (slV xs ys))) := by
  have HOF := Lib.hid (fun (k : Nat) W (b : Below w.heap.size w W) => specOffset_any A A' c c' xs ys (k : Int) W hs hs' (hr.below b) (hr'.below b))
  obtain ⟨O, hO⟩ : ∃ O, slV xs ys = O := ⟨_, rfl⟩
  rw [hO]
  rw [slV_first] at hO
  have HO := Lib.hid hO
  clear hr hr' hs hs' hO
  go_enter Try.func28, Try.ntmps28
  go_wp2_with fail
  go_loopw [6] (fun v wr => ∃ k : Nat, k ≤ 6 ∧ v = .int .i64 k ∧ Hid (∀ i, i < k → (offV xs ys (i : Int)).isSome = false) ∧ Below w.heap.size w wr) (fun v _ => (6 - intOf v).toNat)
  case atStart => exact ⟨0, by omega, rfl, Lib.hid (fun i hi => absurd hi (by omega)), Below.refl _ _⟩
  case round =>
    obtain ⟨k, hk, rfl, HA, hbel⟩ := hrel
    have HB := Lib.hid hbel
    clear hbel
    by_cases hlt : k < 6
    · have hf := HOF.out k wr HB.out
      obtain ⟨x, hx⟩ := offE_is (offV xs ys (k : Int))
      rw [hx] at hf
      have t1 := dec_t (show (k : Int) ≤ 5 by omega)
      cases hso : (offV xs ys (k : Int)).isSome with
      | true =>
        rw [hso] at hf
        have HOO : Hid (O = some k) := Lib.hid (by rw [← HO.out]; exact firstF_at hlt hso HA.out)
        have HFF := Lib.hid hf
        clear hf hx hso hlt
        go_wp2_with fail
        refine HFF.out.mono ?_
        rintro e w3 ⟨rfl, hb3⟩
        have B3 := Lib.hid (below_to HB.out hb3 HB.out.size)
        clear hb3
        go_wp2_with fail
        go_ret2
        exact ⟨congrArg Ending.returned (show Value.tuple #[.int .i64 (k : Int), .bool true] = slE O by rw [HOO.out, slE_some]), B3.out⟩
      | false =>
        rw [hso] at hf
        have HA2 : Hid (∀ i, i < k + 1 → (offV xs ys (i : Int)).isSome = false) := Lib.hid (fun i hi => by
          rcases Nat.lt_succ_iff_lt_or_eq.1 hi with hi | rfl
          · exact HA.out i hi
          · exact hso)
        have HFF := Lib.hid hf
        clear hf hx hso
        go_wp2_with fail
        refine HFF.out.mono ?_
        rintro e w3 ⟨rfl, hb3⟩
        have B3 := Lib.hid (below_to HB.out hb3 HB.out.size)
        clear hb3
        go_wp2_with fail
        go_roundw
        case rel => exact ⟨k + 1, by omega, by go_num, HA2, B3.out⟩
        case measure => simp [intOf]; omega
    · obtain rfl : k = 6 := by omega
      have HOO : Hid (O = none) := Lib.hid (by rw [← HO.out]; exact firstF_none.2 HA.out)
      go_wp2_with fail
      go_ret2
      exact ⟨congrArg Ending.returned (show Value.tuple #[.int .i64 0, .bool false] = slE O by rw [HOO.out, slE_none]), HB.out⟩
end Go.Proofs.Ytebejpaghajhkaa
