/-
  Registers: parts of a register as lists, joined registers (list, RegisterUntil, RegisterJoin; of the reference RegisterUntil). No condition but lengths that fit.
-/
import Derived.Test.YtebejpaghajhkaaRg10
import Derived.Test.YtebejpaghajhkaaRg30
namespace Go.Proofs.Ytebejpaghajhkaa
open Go.RowKit
set_option linter.unusedVariables false
set_option linter.unusedSimpArgs false

set_option maxHeartbeats 1600000 in
theorem list_any (base R : Nat) (E : Nat → Nat) (ns : List NV) (w : World) (hl : ns.length ≤ 1000) (hr : Reg w base R E ns) :
    Calls Try.prog 57 #[.pointer (some ⟨R, 0, none⟩)] w (NewNt w ns) := by
  have RR := Lib.hid hr
  obtain ⟨c0, _, c2, _, _, _⟩ := hr.cells
  clear hr
  go_enter Try.func57, Try.ntmps57
  go_wp2_with (at_make; refine wpList_mk0 slNt rfl (.const (.int .i64 0)) (.tmp 8) rfl w w.heap.size ns.length rfl rfl rfl (by omega) (by unfold maxLen; omega) (Nat.le_refl _) ?_; intro w1 hown1 hg1; have B1 := Lib.hid ((Below.refl _ _).grown hg1 (Nat.le_refl _) (by simp)); have O1 := Lib.hid hown1; obtain ⟨d0, _⟩ := (RR.out.below B1.out).cells; clear c0 c2 hown1 hg1)
  go_loopg [3, 4] ns.length (fun q o e wr => ∃ (k g c : Nat), k ≤ ns.length ∧ q = ns.length - k ∧ o = .slice (some ⟨g, 0, none⟩) k c ∧ e = .pointer (nxA E ns.length k) ∧ OwnNm wr w.heap.size g c k (ns.take k) ∧ Below w.heap.size w wr)
  case atStart => exact ⟨0, _, _, Nat.zero_le _, by omega, rfl, rfl, by simpa [OwnNm, ncells] using O1.out, B1.out⟩
  case round =>
    clear O1 B1 d0
    obtain ⟨k, g, c, hk, hgk, rfl, rfl, hown, hbel⟩ := hrel
    have HGK := Lib.hid hgk
    have HO := Lib.hid hown
    have HB := Lib.hid hbel
    clear hgk hown hbel
    by_cases hlt : k < ns.length
    · have he := nxA_t (E := E) hlt
      obtain ⟨d0, d1, d2, _, _, _⟩ := (RR.out.below HB.out).entry k hlt
      have htk := take_snocN hlt
      obtain ⟨⟨m, s⟩, hx⟩ : ∃ x, ns.getD k Z2 = x := ⟨_, rfl⟩
      rw [hx] at d0 d1 htk
      simp only at d0 d1
      rw [he]
      have HLT := Lib.hid hlt
      have HTK := Lib.hid htk
      clear hx he htk hlt
      go_wp2_with (at_builtin; refine wpList_app1 slNt rfl (.tmp 20) (.tmp 25) rfl _ rfl HO.out rfl rfl (by simp [Value.oneCell']) (by unfold maxLen; omega) (by omega) ?_; intro g9 c9 w9 hown9 hg9 hat9; have B9 := Lib.hid (HB.out.grown hg9 HB.out.size (by rintro g' ⟨⟩; exact OwnV.le HO.out)); obtain ⟨_, _, e2, _, _, _⟩ := (RR.out.below B9.out).entry k HLT.out; clear d0 d1 d2)
      have O9 : Hid (OwnNm w9 w.heap.size g9 c9 (k + 1) (ns.take (k + 1))) := Lib.hid (by unfold OwnNm; rw [HTK.out, ncells_app]; simpa [ncells] using hown9)
      clear hown9 hg9 hat9
      go_roundg (ns.length - (k + 1))
      case measure => have := HLT.out; have := HGK.out; omega
      case rel => exact ⟨k + 1, g9, c9, by have := HLT.out; omega, rfl, rfl, rfl, O9.out, B9.out⟩
    · have he := nxA_f (E := E) hlt
      rw [he]
      obtain rfl : k = ns.length := by omega
      have htk : ns.take ns.length = ns := List.take_length
      rw [htk] at HO
      clear he hlt htk
      go_wp2_with fail
      go_ret
      exact ⟨g, c, rfl, HO.out, HB.out⟩

set_option maxHeartbeats 1600000 in
theorem implUntil_any (A : Option Addr) (c : Nat) (ns : List NV) (x : Int) (w : World) (hs : SzNt ns) (hr : RdNt w A ns) :
    Calls Try.prog 31 #[.slice A ns.length c, .int .i64 x] w (NewNtB w (if regB ns then ns.take (unN ns x) else []) (regB ns)) := by
  have HRO := Lib.hid (registerOf_any A c ns w (by have := hs.1; omega) hs.2 hr)
  clear hr hs
  cases hv : regB ns with
  | true =>
    rw [hv] at HRO
    have hl := reg_len hv
    rw [if_pos rfl]
    clear hv
    go_enter Try.func31, Try.ntmps31
    go_wp2_with fail
    refine HRO.out.mono ?_
    rintro e w1 ⟨R, rfl, hb1, hex⟩
    obtain ⟨E, hr1⟩ := hex rfl
    have B1 := Lib.hid hb1
    have R1 := Lib.hid hr1
    clear hb1 hr1 hex HRO
    go_wp2_with fail
    refine (until_any _ R E ns x _ hl R1.out).mono ?_
    rintro e w2 ⟨R', E', rfl, hr2, hb2⟩
    have B2 := Lib.hid (below_to B1.out hb2 B1.out.size)
    have R2 := Lib.hid hr2
    clear hb2 hr2 R1
    go_wp2_with fail
    refine (list_any _ R' E' _ _ (by simp; omega) R2.out).mono ?_
    rintro e w3 ⟨g, c', rfl, ho, hb3⟩
    have B3 := Lib.hid (below_to B2.out hb3 B2.out.size)
    have O3 := Lib.hid (OwnV.mono ho (base' := w.heap.size) (Nat.le_trans B2.out.size (OwnV.le ho)))
    clear ho hb3 R2
    generalize ns.take (unN ns x) = ms at *
    go_wp2_with fail
    go_ret2
    exact ⟨g, c', rfl, O3.out, B3.out⟩
  | false =>
    rw [hv] at HRO
    rw [if_neg (by simp)]
    clear hv
    go_enter Try.func31, Try.ntmps31
    go_wp2_with fail
    refine HRO.out.mono ?_
    rintro e w1 ⟨R, rfl, hb1, _⟩
    have B1 := Lib.hid hb1
    clear hb1
    go_wp2_with fail
    go_ret2
    exact ⟨w1.heap.size, 0, rfl, ownNm_empty w1 w.heap.size B1.out.size, below_new' B1.out _⟩

set_option maxHeartbeats 1600000 in
theorem specUntil_any (b off c : Nat) (ns : List NV) (x : Int) (w : World) (hs : SzNt ns) (hc : ns.length ≤ c) (hc2 : c ≤ 9223372036854775807) (hb : b < w.heap.size) (ha : AtNt w b off ns) :
    Calls Try.prog 32 #[.slice (some ⟨b, off, none⟩) ns.length c, .int .i64 x] w (NewNtB w (if regB ns then ns.take (unN ns x) else []) (regB ns)) := by
  have HV := Lib.hid (specRValid_any (some ⟨b, off, none⟩) c ns w (by have := hs.1; omega) hs.2 (fun _ => ⟨b, off, rfl, hb, ha⟩))
  cases hv : regB ns with
  | true =>
    rw [hv] at HV
    have hl := reg_len hv
    have HU := Lib.hid (l5Until_any b off c ns x w (by omega) hc hc2 hb ha)
    rw [if_pos rfl]
    clear hv ha hs
    go_enter Try.func32, Try.ntmps32
    go_wp2_with fail
    refine HV.out.mono ?_
    rintro e w1 ⟨rfl, rfl⟩
    go_wp2_with fail
    refine HU.out.mono ?_
    rintro e w2 ⟨g, c', rfl, ho, hb2⟩
    have O2 := Lib.hid ho
    have B2 := Lib.hid hb2
    clear ho hb2 HU
    generalize ns.take (unN ns x) = ms at *
    go_wp2_with fail
    go_ret2
    exact ⟨g, c', rfl, O2.out, B2.out⟩
  | false =>
    rw [hv] at HV
    rw [if_neg (by simp)]
    clear hv ha hs
    go_enter Try.func32, Try.ntmps32
    go_wp2_with fail
    refine HV.out.mono ?_
    rintro e w1 ⟨rfl, rfl⟩
    go_wp2_with fail
    go_ret2
    exact ⟨w.heap.size, 0, rfl, ownNm_empty w w.heap.size (Nat.le_refl _), below_new w _⟩

/-- put, with what it leaves as it was. -/
def PutF (w : World) (base R : Nat) (E : Nat → Nat) (ns : List NV) (x : NV) (e : Ending) (w' : World) : Prop := e = .returned (.tuple #[]) ∧ (∃ E', Reg w' base R E' (ns ++ [x]) ∧ (∀ k, k < ns.length + 1 → (k < ns.length ∧ E' k = E k) ∨ w.heap.size ≤ E' k)) ∧ Below base w w' ∧ ∀ b, b < w.heap.size → b ≠ R → (∀ k, k < ns.length → b ≠ E k) → w'.heap[b]? = w.heap[b]?
set_option maxHeartbeats 800000 in
theorem putF_any (base R : Nat) (E : Nat → Nat) (ns : List NV) (m : Int) (s : ByteArray) (w : World) (hn : ns.length ≤ 1000) (hr : Reg w base R E ns) :
    Calls Try.prog 71 #[.pointer (some ⟨R, 0, none⟩), .agg #[.int .i64 m, .string s]] w (PutF w base R E ns (m, s)) := by
  have hB2 : Below w.heap.size w ((w.alloc (.cells #[.int .i64 m, .string s] 48)).alloc (.cells #[.int .i64 m, .string s, .pointer none] 82)) := below_new' (below_new w _) _
  have B2 := Lib.hid hB2
  have R2 := Lib.hid (hr.below hB2)
  have hG : Blk ((w.alloc (.cells #[.int .i64 m, .string s] 48)).alloc (.cells #[.int .i64 m, .string s, .pointer none] 82)) (w.heap.size + 1) 82 #[.int .i64 m, .string s, .pointer none] := by
    have := Blk.new (w.alloc (.cells #[.int .i64 m, .string s] 48)) 82 #[.int .i64 m, .string s, .pointer none]
    simpa using this
  have G2 := Lib.hid hG
  have RL := Lib.hid hr.lt
  have EL : Hid (∀ k, k < ns.length → E k < w.heap.size + 1) := Lib.hid fun k hk => by have := (hr.2.1 k hk).lt; omega
  have BR := Lib.hid hr.2.2.1
  have LE := Lib.hid hr.2.2.2.1
  have FR : Hid (∀ (W : World) (i j l : Nat) (u v y : Value) (p q r : Nat), Below w.heap.size w W → ∀ b, b < w.heap.size → b ≠ p → b ≠ q → b ≠ r → (((W.setCell ⟨p, i, none⟩ u).setCell ⟨q, j, none⟩ v).setCell ⟨r, l, none⟩ y).heap[b]? = w.heap[b]?) := Lib.hid (fun W i j l u v y p q r hb b hbl h1 h2 h3 =>
    (Below.heap_setCell _ _ _ _ (by show b ≠ r; exact h3)).trans ((Below.heap_setCell _ _ _ _ (by show b ≠ q; exact h2)).trans ((Below.heap_setCell _ _ _ _ (by show b ≠ p; exact h1)).trans (hb.block b hbl))))
  have UP : Hid (∀ k, k < ns.length + 1 → (k < ns.length ∧ upE E ns.length (w.heap.size + 1) k = E k) ∨ w.heap.size ≤ upE E ns.length (w.heap.size + 1) k) := Lib.hid (fun k hk => by
    unfold upE
    by_cases e : k = ns.length
    · rw [if_pos e]; exact .inr (by omega)
    · rw [if_neg e]; exact .inl ⟨by omega, rfl⟩)
  clear hB2 hG hr
  by_cases h0 : 0 < ns.length
  · have H0 := Lib.hid h0
    have ll := lsA (E := E) (n := ns.length)
    obtain ⟨c0, c1, c2, f0, f1, f2⟩ := R2.out.cells
    obtain ⟨d0, d1, d2, g0, g1, g2⟩ := R2.out.entry (ns.length - 1) (by omega)
    have el : lsA E ns.length = some ⟨E (ns.length - 1), 0, none⟩ := by unfold lsA; rw [if_pos h0]
    rw [el] at c1
    have nE : E (ns.length - 1) ≠ R := by have := LE.out (ns.length - 1) (by omega); omega
    have nE' : R ≠ E (ns.length - 1) := fun h => nE h.symm
    have HGT : Hid (R < w.heap.size + 1) := Lib.hid (by have := RL.out; omega)
    clear h0 el ll d0 d1 g0 g1 c0 f0
    go_enter Try.func71, Try.ntmps71
    go_upto_region 2 with fail
    generalize (w.alloc (.cells #[.int .i64 m, .string s] 48)).alloc (.cells #[.int .i64 m, .string s, .pointer none] 82) = W2 at *
    go_wp2_with fail
    go_end0
    exact ⟨rfl, ⟨_, reg_put1 R2.out H0.out G2.out HGT.out EL.out, UP.out⟩, (((B2.out.mono (by have := BR.out; have := RL.out; omega)).setCell (p := ⟨E (ns.length - 1), 2, none⟩) (by have := LE.out (ns.length - 1) (by have := H0.out; omega); have := BR.out; show base ≤ E (ns.length - 1); omega) _).setCell (p := ⟨R, 1, none⟩) BR.out _).setCell (p := ⟨R, 2, none⟩) BR.out _, fun b hb h1 h2 => FR.out _ _ _ _ _ _ _ _ _ _ B2.out b hb (h2 _ (by have := H0.out; omega)) h1 h1⟩
  · obtain rfl : ns = [] := List.eq_nil_of_length_eq_zero (by omega)
    obtain ⟨c0, c1, c2, f0, f1, f2⟩ := R2.out.cells
    simp only [List.length_nil] at c0 c1 c2
    rw [nxA_f (by omega)] at c0
    have el : lsA E 0 = none := rfl
    rw [el] at c1
    have HGT : Hid (R < w.heap.size + 1) := Lib.hid (by have := RL.out; omega)
    clear h0 el
    go_enter Try.func71, Try.ntmps71
    go_upto_region 2 with fail
    generalize (w.alloc (.cells #[.int .i64 m, .string s] 48)).alloc (.cells #[.int .i64 m, .string s, .pointer none] 82) = W2 at *
    go_wp2_with fail
    go_end0
    exact ⟨rfl, ⟨_, reg_put0 R2.out G2.out HGT.out, UP.out⟩, (((B2.out.mono (by have := BR.out; have := RL.out; omega)).setCell (p := ⟨R, 0, none⟩) BR.out _).setCell (p := ⟨R, 1, none⟩) BR.out _).setCell (p := ⟨R, 2, none⟩) BR.out _, fun b hb h1 h2 => FR.out _ _ _ _ _ _ _ _ _ _ B2.out b hb h1 h1 h1⟩
/-- A register's blocks lie in a range. -/
def InR (B B2 R : Nat) (E : Nat → Nat) (n : Nat) : Prop := (B ≤ R ∧ R < B2) ∧ ∀ k, k < n → B ≤ E k ∧ E k < B2
theorem Reg.inR {w w' : World} {base R B B2 : Nat} {E : Nat → Nat} {ns : List NV} (h : Reg w base R E ns) (hi : InR B B2 R E ns.length) (hk : ∀ b, B ≤ b → b < B2 → w'.heap[b]? = w.heap[b]?) : Reg w' base R E ns := by
  obtain ⟨h1, h2, h3, h4, h5⟩ := h
  exact ⟨(hk R hi.1.1 hi.1.2).trans h1, fun k hk' => (hk (E k) (hi.2 k hk').1 (hi.2 k hk').2).trans (h2 k hk'), h3, h4, h5⟩
theorem joinB_t {xs ys : List NV} (h : regB xs = true) (h' : regB ys = true) : joinB xs ys = regB (xs ++ ys) := by unfold joinB; rw [h, h']; rfl
theorem joinB_f {xs ys : List NV} (h : (regB xs && regB ys) = false) : joinB xs ys = false := by unfold joinB; rw [h]; rfl
set_option maxHeartbeats 3200000 in
theorem implJoin_any (A A' : Option Addr) (c c' : Nat) (xs ys : List NV) (w : World) (hs : SzNt xs) (hs' : SzNt ys) (hr : RdNt w A xs) (hr' : RdNt w A' ys) :
    Calls Try.prog 33 #[.slice A xs.length c, .slice A' ys.length c'] w (NewNtB w (if joinB xs ys then xs ++ ys else []) (joinB xs ys)) := by
  have HRO := Lib.hid (registerOf_any A c xs w (by have := hs.1; omega) hs.2 hr)
  have HRO' := Lib.hid (fun W (k : Below w.heap.size w W) => registerOf_any A' c' ys W (by have := hs'.1; omega) hs'.2 (hr'.below k))
  clear hr hr' hs hs'
  cases hv : regB xs with
  | false =>
    rw [hv] at HRO
    rw [joinB_f (by rw [hv]; rfl), if_neg (by simp)]
    generalize regB ys = V' at *
    clear hv
    go_enter Try.func33, Try.ntmps33
    go_wp2_with fail
    refine HRO.out.mono ?_
    rintro e w1 ⟨R, rfl, hb1, _⟩
    have B1 := Lib.hid hb1
    clear hb1
    go_wp2_with fail
    refine (HRO'.out _ B1.out).mono ?_
    rintro e w2 ⟨R', rfl, hb2, _⟩
    have B2 := Lib.hid (below_to B1.out hb2 B1.out.size)
    clear hb2
    go_wp2_with fail
    go_ret2
    exact ⟨w2.heap.size, 0, rfl, ownNm_empty w2 w.heap.size B2.out.size, below_new' B2.out _⟩
  | true =>
  rw [hv] at HRO
  cases hv' : regB ys with
  | false =>
    rw [hv'] at HRO'
    rw [joinB_f (by rw [hv, hv']; rfl), if_neg (by simp)]
    clear hv hv'
    go_enter Try.func33, Try.ntmps33
    go_wp2_with fail
    refine HRO.out.mono ?_
    rintro e w1 ⟨R, rfl, hb1, _⟩
    have B1 := Lib.hid hb1
    clear hb1
    go_wp2_with fail
    refine (HRO'.out _ B1.out).mono ?_
    rintro e w2 ⟨R', rfl, hb2, _⟩
    have B2 := Lib.hid (below_to B1.out hb2 B1.out.size)
    clear hb2
    go_wp2_with fail
    go_ret2
    exact ⟨w2.heap.size, 0, rfl, ownNm_empty w2 w.heap.size B2.out.size, below_new' B2.out _⟩
  | true =>
    rw [hv'] at HRO'
    rw [joinB_t hv hv']
    obtain ⟨MS, hMS⟩ : ∃ MS, (if regB (xs ++ ys) then xs ++ ys else []) = MS := ⟨_, rfl⟩
    obtain ⟨V, hV⟩ : ∃ V, regB (xs ++ ys) = V := ⟨_, rfl⟩
    rw [hMS, hV]
    rw [hV] at hMS
    have HMS := Lib.hid hMS
    have HVV := Lib.hid hV
    clear hMS hV
    have hl := reg_len hv
    have hl' := reg_len hv'
    have HBX := Lib.hid (fun k hk => (reg_bd hv k hk).2)
    have HBY := Lib.hid (fun k hk => (reg_bd hv' k hk).2)
    clear hv hv'
    go_enter Try.func33, Try.ntmps33
    go_wp2_with fail
    refine HRO.out.mono ?_
    rintro e w1 ⟨R, rfl, hb1, hex⟩
    obtain ⟨E, hr1⟩ := hex rfl
    have B1 := Lib.hid hb1
    have R1 := Lib.hid hr1
    clear hb1 hr1 hex
    go_wp2_with fail
    refine (HRO'.out _ B1.out).mono ?_
    rintro e w2 ⟨R', rfl, hb2, hex⟩
    obtain ⟨E', hr2⟩ := hex rfl
    have R2 := Lib.hid hr2
    have R1' := Lib.hid (R1.out.below hb2)
    have B2 := Lib.hid (below_to B1.out hb2 B1.out.size)
    have IR : Hid (InR w1.heap.size w2.heap.size R' E' ys.length) := Lib.hid ⟨⟨hr2.2.2.1, hr2.lt⟩, fun k hk => ⟨by have := hr2.2.2.1; have := hr2.2.2.2.1 k hk; omega, (hr2.2.1 k hk).lt⟩⟩
    have LO : Hid (R < w1.heap.size ∧ ∀ k, k < xs.length → E k < w1.heap.size) := Lib.hid ⟨R1.out.lt, fun k hk => (R1.out.2.1 k hk).lt⟩
    obtain ⟨c0, _⟩ := R2.out.cells
    clear hb2 hr2 hex R1 HRO HRO'
    go_wp2_with fail
    go_loopg [10] ys.length (fun q e wr => ∃ (k : Nat) (E1 : Nat → Nat), k ≤ ys.length ∧ q = ys.length - k ∧ e = .pointer (nxA E' ys.length k) ∧ Reg wr w.heap.size R E1 (xs ++ ys.take k) ∧ Reg wr w1.heap.size R' E' ys ∧ (∀ j, j < xs.length + k → E1 j < w1.heap.size ∨ w2.heap.size ≤ E1 j) ∧ w2.heap.size ≤ wr.heap.size ∧ Below w.heap.size w wr)
    case atStart => exact ⟨0, E, Nat.zero_le _, by omega, rfl, by simpa using R1'.out, R2.out, fun j hj => .inl (LO.out.2 j (by omega)), Nat.le_refl _, B2.out⟩
    case round =>
      clear R1' R2 B2 c0
      obtain ⟨k, E1, hk, hgk, rfl, hreg, hreg', hfar, hsz, hbel⟩ := hrel
      have HGK := Lib.hid hgk
      have HG := Lib.hid hreg
      have HG' := Lib.hid hreg'
      have HF := Lib.hid hfar
      have HB := Lib.hid hbel
      clear hgk hreg hreg' hfar hbel
      by_cases hlt : k < ys.length
      · have he := nxA_t (E := E') hlt
        obtain ⟨d0, d1, d2, _, _, _⟩ := HG'.out.entry k hlt
        have htk := take_snocN hlt
        have hlen : (xs ++ ys.take k).length = xs.length + k := by simp; omega
        obtain ⟨⟨m, s⟩, hx⟩ : ∃ x, ys.getD k Z2 = x := ⟨_, rfl⟩
        rw [hx] at d0 d1 htk
        simp only at d0 d1
        rw [he]
        have HLT := Lib.hid hlt
        have HTK := Lib.hid htk
        have HLN := Lib.hid hlen
        have HP := Lib.hid (putF_any w.heap.size R E1 (xs ++ ys.take k) m s wr (by omega) HG.out)
        have HSZ := Lib.hid hsz
        clear hx he htk hlt hlen hsz
        go_wp2_with fail
        refine HP.out.mono ?_
        rintro e w3 ⟨rfl, ⟨E2, hr3, hfr⟩, hb3, hkeep⟩
        have R3 : Hid (Reg w3 w.heap.size R E2 (xs ++ ys.take (k + 1))) := Lib.hid (by rw [HTK.out, ← List.append_assoc]; exact hr3)
        have B3 := Lib.hid (HB.out.trans hb3)
        have Y3 : Hid (Reg w3 w1.heap.size R' E' ys) := Lib.hid (HG'.out.inR IR.out (fun b h1 h2 => hkeep b (by have := HSZ.out; omega) (by have := LO.out.1; omega) (fun j hj => by
          rw [HLN.out] at hj
          have := HF.out j hj
          omega)))
        have F3 : Hid (∀ j, j < xs.length + (k + 1) → E2 j < w1.heap.size ∨ w2.heap.size ≤ E2 j) := Lib.hid (fun j hj => by
          rw [HLN.out] at hfr
          rcases hfr j (by omega) with ⟨h1, h2⟩ | h1
          · rw [h2]; exact HF.out j h1
          · exact .inr (Nat.le_trans HSZ.out h1))
        have Z3 : Hid (w2.heap.size ≤ w3.heap.size) := Lib.hid (Nat.le_trans HSZ.out hb3.size)
        obtain ⟨_, _, e2, _, _, _⟩ := Y3.out.entry k HLT.out
        clear hr3 hfr hb3 hkeep d0 d1 d2 HP
        go_wp2_with fail
        go_roundg (ys.length - (k + 1))
        case measure => have := HLT.out; have := HGK.out; omega
        case rel => exact ⟨k + 1, E2, by have := HLT.out; omega, rfl, rfl, R3.out, Y3.out, F3.out, Z3.out, B3.out⟩
      · have he := nxA_f (E := E') hlt
        rw [he]
        obtain rfl : k = ys.length := by omega
        have htk : ys.take ys.length = ys := List.take_length
        rw [htk] at HG
        have HV := Lib.hid (valid_any w.heap.size R E1 (xs ++ ys) wr (by simp; omega) (fun j hj => by
          simp only [List.length_append] at hj
          by_cases e : j < xs.length
          · have h1 := HBX.out j e
            rw [List.getD_eq_getElem?_getD, List.getElem?_append_left e]
            rw [List.getD_eq_getElem?_getD] at h1
            omega
          · have h1 := HBY.out (j - xs.length) (by omega)
            rw [List.getD_eq_getElem?_getD, List.getElem?_append_right (by omega)]
            rw [List.getD_eq_getElem?_getD] at h1
            omega) HG.out)
        have hlen : (xs ++ ys).length ≤ 1000 := by simp; omega
        rw [HVV.out] at HV
        have HMS2 := HMS.out
        generalize xs ++ ys = ms at *
        clear he hlt htk HMS HVV
        cases V with
        | true =>
          rw [if_pos rfl] at HMS2
          subst HMS2
          go_wp2_with fail
          refine HV.out.mono ?_
          rintro e w3 ⟨rfl, rfl⟩
          go_wp2_with fail
          refine (list_any _ R E1 ms _ hlen HG.out).mono ?_
          rintro e w3 ⟨g, c9, rfl, ho, hb3⟩
          have B3 := Lib.hid (below_to HB.out hb3 HB.out.size)
          have O3 := Lib.hid (OwnV.mono ho (base' := w.heap.size) (Nat.le_trans HB.out.size (OwnV.le ho)))
          clear ho hb3
          go_wp2_with fail
          go_ret2
          exact ⟨g, c9, rfl, O3.out, B3.out⟩
        | false =>
          rw [if_neg (by simp)] at HMS2
          subst HMS2
          go_wp2_with fail
          refine HV.out.mono ?_
          rintro e w3 ⟨rfl, rfl⟩
          go_wp2_with fail
          go_ret2
          exact ⟨wr.heap.size, 0, rfl, ownNm_empty wr w.heap.size HB.out.size, below_new' HB.out _⟩

set_option maxHeartbeats 800000 in
theorem sameNotes_same (b off c b' off' c' : Nat) (ns : List NV) (w : World) (hn : ns.length ≤ 1048576) (ha : AtNt w b off ns) (ha' : AtNt w b' off' ns) :
    Calls Try.prog 18 #[.slice (some ⟨b, off, none⟩) ns.length c, .slice (some ⟨b', off', none⟩) ns.length c'] w fun e w' => e = .returned (.bool true) ∧ ∃ n, w' = w.drewN n := by
  have HA := Lib.hid ha
  have HA' := Lib.hid ha'
  have t0 := bne_f (show (ns.length : Int) = (ns.length : Int) from rfl)
  clear ha ha'
  go_enter Try.func18, Try.ntmps18
  go_wp2_with fail
  go_loopw [5] (fun i wr => ∃ k n : Nat, k ≤ ns.length ∧ i = .int .i64 k ∧ wr = w.drewN n) (fun i _ => ns.length - (intOf i).toNat)
  case atStart => exact ⟨0, 0, Nat.zero_le _, rfl, rfl⟩
  case round =>
    obtain ⟨k, n, hk, rfl, rfl⟩ := hrel
    by_cases hlt : k < ns.length
    · obtain ⟨p0, p1⟩ := HA.out k hlt
      obtain ⟨q0, q1⟩ := HA'.out k hlt
      have i2 : (k : Int) < (ns.length : Int) := by omega
      obtain ⟨⟨m, s⟩, hx⟩ : ∃ x, ns.getD k Z2 = x := ⟨_, rfl⟩
      rw [hx] at p0 p1 q0 q1
      simp only at p0 p1 q0 q1
      have e1 := bne_f (show m = m from rfl)
      have e2 := beq_t (show m = m from rfl)
      clear hx hlt
      go_wp2_with fail
      go_quiet (fail)
      go_wp2_with fail
      go_roundw
      case rel => exact ⟨k + 1, _, by omega, by go_num, rfl⟩
      case measure => simp [intOf]; omega
    · obtain rfl : k = ns.length := by omega
      go_wp2_with fail
      go_ret
      exact ⟨rfl, n, rfl⟩
theorem sameNotes_nil (c c' : Nat) (A A' : Option Addr) (w : World) : Calls Try.prog 18 #[.slice A 0 c, .slice A' 0 c'] w fun e w' => e = .returned (.bool true) ∧ w = w' := by
  go_enter Try.func18, Try.ntmps18
  go_wp2_with fail
  go_loop [5] (fun q => q = .int .i64 0) (fun q => 0)
  case atStart => rfl
  case round =>
    subst hrel
    go_wp2_with fail
    go_ret
    exact ⟨rfl, rfl⟩
end Go.Proofs.Ytebejpaghajhkaa
