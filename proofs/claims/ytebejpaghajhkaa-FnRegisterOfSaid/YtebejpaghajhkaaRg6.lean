/-
  Registers: the least offset, the least slack, of the program and of the reference. No condition but lengths that fit.
-/
import Derived.Test.YtebejpaghajhkaaRg5
namespace Go.Proofs.Ytebejpaghajhkaa
open Go.RowKit
set_option linter.unusedVariables false
set_option linter.unusedSimpArgs false

/-- What a function that hands back a value and makes memory leaves. -/
def RetB (w : World) (v : Value) (e : Ending) (w' : World) : Prop := e = .returned v ∧ Below w.heap.size w w'
/-- Every letter of a list is a string that fits. -/
def SzNt (ns : List NV) : Prop := ns.length ≤ 1048576 ∧ ∀ k, k < ns.length → (ns.getD k Z2).2.size ≤ 9223372036854775807

set_option maxHeartbeats 800000 in
theorem implText_any (A : Option Addr) (c : Nat) (ns : List NV) (w : World) (hs : SzNt ns) (hr : RdNt w A ns) :
    Calls Try.prog 20 #[.slice A ns.length c] w (RetB w (.string (if regB ns then txt ns else ⟨#[]⟩))) := by
  have HRO := Lib.hid (registerOf_any A c ns w (by have := hs.1; omega) hs.2 hr)
  have HT := Lib.hid (fun base R E w hv h => text_any base R E ns w hv h)
  clear hr hs
  cases hv : regB ns with
  | true =>
    rw [hv] at HRO
    rw [if_pos rfl]
    have HV := Lib.hid hv
    clear hv
    generalize txt ns = X at *
    go_enter Try.func20, Try.ntmps20
    go_wp2_with fail
    refine HRO.out.mono ?_
    rintro e w1 ⟨R, rfl, hb1, hex⟩
    obtain ⟨E, hr1⟩ := hex rfl
    have B1 := Lib.hid hb1
    have R1 := Lib.hid hr1
    clear hb1 hr1 hex
    go_wp2_with fail
    refine (HT.out _ _ _ _ HV.out R1.out).mono ?_
    rintro e w2 ⟨rfl, hb2⟩
    have B2 := Lib.hid (below_to B1.out hb2 B1.out.size)
    clear hb2
    go_wp2_with fail
    go_ret
    exact ⟨rfl, B2.out⟩
  | false =>
    rw [hv] at HRO
    rw [if_neg (by simp)]
    clear hv
    go_enter Try.func20, Try.ntmps20
    go_wp2_with fail
    refine HRO.out.mono ?_
    rintro e w1 ⟨R, rfl, hb1, _⟩
    have B1 := Lib.hid hb1
    clear hb1
    go_wp2_with fail
    go_ret
    exact ⟨rfl, B1.out⟩
set_option maxHeartbeats 800000 in
theorem specText_any (A : Option Addr) (c : Nat) (ns : List NV) (w : World) (hs : SzNt ns) (hr : RdNt w A ns) :
    Calls Try.prog 23 #[.slice A ns.length c] w fun e w' => e = .returned (.string (if regB ns then txt ns else ⟨#[]⟩)) ∧ w = w' := by
  have HVL := Lib.hid (specRValid_any A c ns w (by have := hs.1; omega) hs.2 hr)
  cases hv : regB ns with
  | true =>
    have HT := Lib.hid (l5Text_any A c ns w hv hr)
    rw [hv] at HVL
    rw [if_pos rfl]
    clear hr hs hv
    generalize txt ns = X at *
    go_enter Try.func23, Try.ntmps23
    go_wp2_with fail
    refine HVL.out.mono ?_
    rintro e w1 ⟨rfl, rfl⟩
    go_wp2_with fail
    refine HT.out.mono ?_
    rintro e w1 ⟨rfl, rfl⟩
    go_wp2_with fail
    go_ret
    exact ⟨rfl, rfl⟩
  | false =>
    rw [hv] at HVL
    rw [if_neg (by simp)]
    clear hr hs hv
    go_enter Try.func23, Try.ntmps23
    go_wp2_with fail
    refine HVL.out.mono ?_
    rintro e w1 ⟨rfl, rfl⟩
    go_wp2_with fail
    go_ret
    exact ⟨rfl, rfl⟩

theorem offE_some (j : Nat) : offE (some j) = .tuple #[.int .i64 ((j : Int) - 30), .bool true] := rfl
theorem offE_none : offE none = .tuple #[.int .i64 0, .bool false] := rfl
theorem offE_form (o : Option Nat) : ∃ (x : Int) (b : Bool), offE o = .tuple #[.int .i64 x, .bool b] := by
  cases o with
  | none => exact ⟨0, false, rfl⟩
  | some j => exact ⟨_, true, rfl⟩
theorem ret_off {o p : Option Nat} (h : o = p) : Ending.returned (offE o) = .returned (offE p) := by rw [h]
set_option maxHeartbeats 1600000 in
theorem offset_any (base R base' R' : Nat) (E E' : Nat → Nat) (xs ys : List NV) (sl : Int) (w : World) (hv : regB xs = true) (hv' : regB ys = true) (hr : Reg w base R E xs) (hr' : Reg w base' R' E' ys) :
    Calls Try.prog 67 #[.pointer (some ⟨R, 0, none⟩), .pointer (some ⟨R', 0, none⟩), .int .i64 sl] w (RetB w (offE (offJ xs ys sl))) := by
  by_cases hs : 0 ≤ sl ∧ sl ≤ 5
  · have hoj : offJ xs ys sl = firstF (fun j => fitB xs ys sl ((j : Int) - 30)) 61 := by unfold offJ; rw [if_pos (inB_true hs)]
    have HF := Lib.hid (fun (o : Int) W (k : Below w.heap.size w W) (ho : -30 ≤ o ∧ o ≤ 30) => fits_any base R base' R' E E' xs ys o sl W hv hv' ho hs (hr.below k) (hr'.below k))
    obtain ⟨O, hO⟩ : ∃ O, offJ xs ys sl = O := ⟨_, rfl⟩
    rw [hO] at hoj ⊢
    have HO := Lib.hid hoj
    have t1 := dec_f (show ¬ sl < 0 by omega)
    have t2 := dec_f (show ¬ (5 : Int) < sl by omega)
    clear hr hr' hO hoj
    go_enter Try.func67, Try.ntmps67
    go_wp2_with fail
    go_loopw [8] (fun v wr => ∃ (j : Nat) (o : Int), j ≤ 61 ∧ v = .int .i64 o ∧ Hid (o = (j : Int) - 30) ∧ (-30 ≤ o ∧ o ≤ 31) ∧ Hid (∀ i, i < j → fitB xs ys sl ((i : Int) - 30) = false) ∧ Below w.heap.size w wr) (fun v _ => (31 - intOf v).toNat)
    case atStart => exact ⟨0, -30, by omega, rfl, Lib.hid (by omega), by omega, Lib.hid (fun i hi => absurd hi (by omega)), Below.refl _ _⟩
    case round =>
      obtain ⟨j, o, hj, rfl, HOE, hob, HA, hbel⟩ := hrel
      have HB := Lib.hid hbel
      clear hbel
      by_cases hlt : o ≤ 30
      · have t3 := dec_t hlt
        have hf := HF.out o wr HB.out ⟨hob.1, hlt⟩
        have HJ := Lib.hid (show j < 61 by have := HOE.out; omega)
        obtain ⟨b, hb⟩ : ∃ b, fitB xs ys sl o = b := ⟨_, rfl⟩
        rw [hb] at hf
        have HFF := Lib.hid hf
        cases b with
        | true =>
          have HOO : Hid (O = some j) := Lib.hid (by rw [HO.out]; exact firstF_at HJ.out (by rw [← HOE.out]; exact hb) HA.out)
          clear hf hb
          go_wp2_with fail
          refine HFF.out.mono ?_
          rintro e w2 ⟨rfl, hb2⟩
          have B2 := Lib.hid (below_to HB.out hb2 HB.out.size)
          clear hb2
          go_wp2_with fail
          go_ret2
          exact ⟨congrArg Ending.returned (show Value.tuple #[.int .i64 o, .bool true] = offE O by rw [HOO.out, offE_some, ← HOE.out]), B2.out⟩
        | false =>
          have HA2 : Hid (∀ i, i < j + 1 → fitB xs ys sl ((i : Int) - 30) = false) := Lib.hid (fun i hi => by
            rcases Nat.lt_succ_iff_lt_or_eq.1 hi with hi | rfl
            · exact HA.out i hi
            · rw [← HOE.out]; exact hb)
          clear hf hb
          go_wp2_with fail
          refine HFF.out.mono ?_
          rintro e w2 ⟨rfl, hb2⟩
          have B2 := Lib.hid (below_to HB.out hb2 HB.out.size)
          clear hb2
          go_wp2_with fail
          go_roundw
          case rel => exact ⟨j + 1, o + 1, by have := HJ.out; omega, by go_num, Lib.hid (by have := HOE.out; omega), by omega, HA2, B2.out⟩
          case measure => simp [intOf]; omega
      · have t3 := dec_f hlt
        have HJ := Lib.hid (show j = 61 by have := HOE.out; omega)
        have HOO : Hid (O = none) := Lib.hid (by rw [HO.out, firstF_none]; intro i hi; exact HA.out i (by have := HJ.out; omega))
        go_wp2_with fail
        go_ret2
        exact ⟨congrArg Ending.returned (show Value.tuple #[.int .i64 0, .bool false] = offE O by rw [HOO.out, offE_none]), HB.out⟩
  · rw [offJ_no (by by_cases h : sl < 0; exact inB_false (.inl h); exact inB_false (.inr (by omega))), offE_none]
    clear hr hr' hv hv'
    by_cases h0 : sl < 0
    · have t1 := dec_t h0
      clear hs
      go_enter Try.func67, Try.ntmps67
      go_wp2_with fail
      go_ret2
      exact ⟨rfl, Below.refl _ _⟩
    · have t1 := dec_f h0
      have t2 := dec_t (show (5 : Int) < sl by omega)
      clear hs
      go_enter Try.func67, Try.ntmps67
      go_wp2_with fail
      go_ret2
      exact ⟨rfl, Below.refl _ _⟩

set_option maxHeartbeats 1600000 in
theorem implOffset_any (A A' : Option Addr) (c c' : Nat) (xs ys : List NV) (sl : Int) (w : World) (hs : SzNt xs) (hs' : SzNt ys) (hr : RdNt w A xs) (hr' : RdNt w A' ys) :
    Calls Try.prog 27 #[.slice A xs.length c, .slice A' ys.length c', .int .i64 sl] w (RetB w (offE (offV xs ys sl))) := by
  have HRO := Lib.hid (registerOf_any A c xs w (by have := hs.1; omega) hs.2 hr)
  have HRO' := Lib.hid (fun W (k : Below w.heap.size w W) => registerOf_any A' c' ys W (by have := hs'.1; omega) hs'.2 (hr'.below k))
  have HOF := Lib.hid (fun base R base' R' E E' W h1 h2 h3 h4 => offset_any base R base' R' E E' xs ys sl W h1 h2 h3 h4)
  clear hr hr' hs hs'
  cases hv : regB xs with
  | true =>
    rw [hv] at HRO
    cases hv' : regB ys with
    | true =>
      rw [hv'] at HRO'
      rw [offV_yes hv hv']
      have HV := Lib.hid hv
      have HV' := Lib.hid hv'
      clear hv hv'
      obtain ⟨vx, vb, hV⟩ := offE_form (offJ xs ys sl)
      rw [hV] at HOF ⊢
      clear hV
      go_enter Try.func27, Try.ntmps27
      go_wp2_with fail
      refine HRO.out.mono ?_
      rintro e w1 ⟨R, rfl, hb1, hex⟩
      obtain ⟨E, hr1⟩ := hex rfl
      have B1 := Lib.hid hb1
      have R1 := Lib.hid hr1
      clear hb1 hr1 hex
      go_wp2_with fail
      refine (HRO'.out _ B1.out).mono ?_
      rintro e w2 ⟨R', rfl, hb2, hex⟩
      obtain ⟨E', hr2⟩ := hex rfl
      have R2 := Lib.hid hr2
      have R1' := Lib.hid (R1.out.below hb2)
      have B2 := Lib.hid (below_to B1.out hb2 B1.out.size)
      clear hb2 hr2 hex
      go_wp2_with fail
      refine (HOF.out _ _ _ _ _ _ _ HV.out HV'.out R1'.out R2.out).mono ?_
      rintro e w3 ⟨rfl, hb3⟩
      have B3 := Lib.hid (below_to B2.out hb3 B2.out.size)
      clear hb3
      go_wp2_with fail
      go_ret2
      exact ⟨rfl, B3.out⟩
    | false =>
      rw [hv'] at HRO'
      rw [offV_no (by rw [hv, hv']; rfl), offE_none]
      clear hv hv' HOF
      go_enter Try.func27, Try.ntmps27
      go_wp2_with fail
      refine HRO.out.mono ?_
      rintro e w1 ⟨R, rfl, hb1, _⟩
      have B1 := Lib.hid hb1
      clear hb1
      go_wp2_with fail
      refine (HRO'.out _ B1.out).mono ?_
      rintro e w2 ⟨R', rfl, hb2, _⟩
      have B2 := Lib.hid (below_to B1.out hb2 B1.out.size)
      clear hb2
      go_wp2_with fail
      go_ret2
      exact ⟨rfl, B2.out⟩
  | false =>
    rw [hv] at HRO
    rw [offV_no (by rw [hv]; rfl), offE_none]
    generalize regB ys = V' at *
    clear hv HOF
    go_enter Try.func27, Try.ntmps27
    go_wp2_with fail
    refine HRO.out.mono ?_
    rintro e w1 ⟨R, rfl, hb1, _⟩
    have B1 := Lib.hid hb1
    clear hb1
    go_wp2_with fail
    refine (HRO'.out _ B1.out).mono ?_
    rintro e w2 ⟨R', rfl, hb2, _⟩
    have B2 := Lib.hid (below_to B1.out hb2 B1.out.size)
    clear hb2
    go_wp2_with fail
    go_ret2
    exact ⟨rfl, B2.out⟩

theorem slE_some (j : Nat) : slE (some j) = .tuple #[.int .i64 (j : Int), .bool true] := rfl
theorem slE_none : slE none = .tuple #[.int .i64 0, .bool false] := rfl
theorem slE_form (o : Option Nat) : ∃ (x : Int) (b : Bool), slE o = .tuple #[.int .i64 x, .bool b] := by
  cases o with
  | none => exact ⟨0, false, rfl⟩
  | some j => exact ⟨_, true, rfl⟩
theorem offE_is (o : Option Nat) : ∃ x : Int, offE o = .tuple #[.int .i64 x, .bool o.isSome] := by
  cases o with
  | none => exact ⟨0, rfl⟩
  | some j => exact ⟨_, rfl⟩
set_option maxHeartbeats 1600000 in
theorem implSlack_any (A A' : Option Addr) (c c' : Nat) (xs ys : List NV) (w : World) (hs : SzNt xs) (hs' : SzNt ys) (hr : RdNt w A xs) (hr' : RdNt w A' ys) :
    Calls Try.prog 29 #[.slice A xs.length c, .slice A' ys.length c'] w (RetB w (slE (slV xs ys))) := by
  have HRO := Lib.hid (registerOf_any A c xs w (by have := hs.1; omega) hs.2 hr)
  have HRO' := Lib.hid (fun W (k : Below w.heap.size w W) => registerOf_any A' c' ys W (by have := hs'.1; omega) hs'.2 (hr'.below k))
  have HOF := Lib.hid (fun base R base' R' E E' sl W h1 h2 h3 h4 => offset_any base R base' R' E E' xs ys sl W h1 h2 h3 h4)
  clear hr hr' hs hs'
  cases hv : regB xs with
  | true =>
    rw [hv] at HRO
    cases hv' : regB ys with
    | true =>
      rw [hv'] at HRO'
      rw [slV_yes hv hv']
      have HV := Lib.hid hv
      have HV' := Lib.hid hv'
      obtain ⟨O, hO⟩ : ∃ O, slJ xs ys = O := ⟨_, rfl⟩
      rw [hO]
      have HO := Lib.hid hO
      clear hv hv' hO
      go_enter Try.func29, Try.ntmps29
      go_wp2_with fail
      refine HRO.out.mono ?_
      rintro e w1 ⟨R, rfl, hb1, hex⟩
      obtain ⟨E, hr1⟩ := hex rfl
      have B1 := Lib.hid hb1
      have R1 := Lib.hid hr1
      clear hb1 hr1 hex
      go_wp2_with fail
      refine (HRO'.out _ B1.out).mono ?_
      rintro e w2 ⟨R', rfl, hb2, hex⟩
      obtain ⟨E', hr2⟩ := hex rfl
      have R2 := Lib.hid hr2
      have R1' := Lib.hid (R1.out.below hb2)
      have B2 := Lib.hid (below_to B1.out hb2 B1.out.size)
      clear hb2 hr2 hex R1 HRO HRO'
      go_wp2_with fail
      go_loopw [29] (fun v wr => ∃ k : Nat, k ≤ 6 ∧ v = .int .i64 k ∧ Hid (∀ i, i < k → (offJ xs ys (i : Int)).isSome = false) ∧ Below w.heap.size w wr ∧ Below w2.heap.size w2 wr) (fun v _ => (6 - intOf v).toNat)
      case atStart => exact ⟨0, by omega, rfl, Lib.hid (fun i hi => absurd hi (by omega)), B2.out, Below.refl _ _⟩
      case round =>
        obtain ⟨k, hk, rfl, HA, hbel, hbel2⟩ := hrel
        have HB := Lib.hid hbel
        have HB2 := Lib.hid hbel2
        clear hbel hbel2
        by_cases hlt : k < 6
        · have hf := HOF.out _ _ _ _ _ _ (k : Int) wr HV.out HV'.out (R1'.out.below HB2.out) (R2.out.below HB2.out)
          obtain ⟨x, hx⟩ := offE_is (offJ xs ys (k : Int))
          rw [hx] at hf
          have i1 : (k : Int) < 6 := by omega
          cases hso : (offJ xs ys (k : Int)).isSome with
          | true =>
            rw [hso] at hf
            have HOO : Hid (O = some k) := Lib.hid (by rw [← HO.out]; exact firstF_at hlt hso HA.out)
            have HFF := Lib.hid hf
            clear hf hx hso hlt
            go_wp2_with fail
            refine HFF.out.mono ?_
            rintro e w3 ⟨rfl, hb3⟩
            have B3 := Lib.hid (below_to HB.out hb3 HB.out.size)
            clear hb3
            go_wp2_with fail
            go_ret2
            exact ⟨congrArg Ending.returned (show Value.tuple #[.int .i64 (k : Int), .bool true] = slE O by rw [HOO.out, slE_some]), B3.out⟩
          | false =>
            rw [hso] at hf
            have HA2 : Hid (∀ i, i < k + 1 → (offJ xs ys (i : Int)).isSome = false) := Lib.hid (fun i hi => by
              rcases Nat.lt_succ_iff_lt_or_eq.1 hi with hi | rfl
              · exact HA.out i hi
              · exact hso)
            have HFF := Lib.hid hf
            clear hf hx hso
            go_wp2_with fail
            refine HFF.out.mono ?_
            rintro e w3 ⟨rfl, hb3⟩
            have B3 := Lib.hid (below_to HB.out hb3 HB.out.size)
            have B4 := Lib.hid (below_to HB2.out hb3 HB2.out.size)
            clear hb3
            go_wp2_with fail
            go_roundw
            case rel => exact ⟨k + 1, by omega, by go_num, HA2, B3.out, B4.out⟩
            case measure => simp [intOf]; omega
        · obtain rfl : k = 6 := by omega
          have HOO : Hid (O = none) := Lib.hid (by rw [← HO.out]; exact firstF_none.2 HA.out)
          go_wp2_with fail
          go_ret2
          exact ⟨congrArg Ending.returned (show Value.tuple #[.int .i64 0, .bool false] = slE O by rw [HOO.out, slE_none]), HB.out⟩
    | false =>
      rw [hv'] at HRO'
      rw [slV_no (by rw [hv, hv']; rfl), slE_none]
      clear hv hv' HOF
      go_enter Try.func29, Try.ntmps29
      go_wp2_with fail
      refine HRO.out.mono ?_
      rintro e w1 ⟨R, rfl, hb1, _⟩
      have B1 := Lib.hid hb1
      clear hb1
      go_wp2_with fail
      refine (HRO'.out _ B1.out).mono ?_
      rintro e w2 ⟨R', rfl, hb2, _⟩
      have B2 := Lib.hid (below_to B1.out hb2 B1.out.size)
      clear hb2
      go_wp2_with fail
      go_ret2
      exact ⟨rfl, B2.out⟩
  | false =>
    rw [hv] at HRO
    rw [slV_no (by rw [hv]; rfl), slE_none]
    generalize regB ys = V' at *
    clear hv HOF
    go_enter Try.func29, Try.ntmps29
    go_wp2_with fail
    refine HRO.out.mono ?_
    rintro e w1 ⟨R, rfl, hb1, _⟩
    have B1 := Lib.hid hb1
    clear hb1
    go_wp2_with fail
    refine (HRO'.out _ B1.out).mono ?_
    rintro e w2 ⟨R', rfl, hb2, _⟩
    have B2 := Lib.hid (below_to B1.out hb2 B1.out.size)
    clear hb2
    go_wp2_with fail
    go_ret2
    exact ⟨rfl, B2.out⟩
end Go.Proofs.Ytebejpaghajhkaa
