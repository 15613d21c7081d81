/-
  Registers: a later register (RegisterLate; of the reference too, region 5). No condition but lengths that fit.
-/
import Derived.Test.YtebejpaghajhkaaRg32
namespace Go.Proofs.Ytebejpaghajhkaa
open Go.RowKit
set_option linter.unusedVariables false
set_option linter.unusedSimpArgs false

/-- One note of a register in memory has another minute. -/
theorem Reg.store {w : World} {base R : Nat} {E : Nat → Nat} {ns : List NV} (h : Reg w base R E ns) (i : Nat) (hi : i < ns.length) (m : Int) :
    Reg (w.setCell ⟨E i, 0, none⟩ (.int .i64 m)) base R E (ns.set i (m, (ns.getD i Z2).2)) := by
  obtain ⟨h1, h2, h3, h4, h5⟩ := h
  have e : (ns.set i (m, (ns.getD i Z2).2)).length = ns.length := by simp
  have hg : ∀ k, (ns.set i (m, (ns.getD i Z2).2)).getD k Z2 = if k = i then (m, (ns.getD i Z2).2) else ns.getD k Z2 := fun k => by
    by_cases hk : k = i
    · subst hk; rw [if_pos rfl]; simp [List.getD, hi]
    · rw [if_neg hk]; simp [List.getD, List.getElem?_set, show ¬ i = k from fun h => hk h.symm]
  refine ⟨?_, fun k hk => ?_, h3, fun k hk => h4 k (by omega), fun j k hj hk => h5 j k hj (by omega)⟩
  · rw [e]
    exact h1.far (p := ⟨E i, 0, none⟩) (by have := h4 i hi; show R ≠ E i; omega) _
  · rw [e] at hk ⊢
    rw [hg]
    by_cases hki : k = i
    · subst hki
      rw [if_pos rfl]
      have := (h2 k hk).set_ 0 (.int .i64 m)
      simpa using this
    · rw [if_neg hki]
      refine (h2 k hk).far (p := ⟨E i, 0, none⟩) ?_ _
      show E k ≠ E i
      rcases Nat.lt_or_gt_of_ne hki with h | h
      · have := h5 k i h hi; omega
      · have := h5 i k h hk; omega
/-- The first i notes later, the others not. -/
def latK (ns : List NV) (k : Int) (i : Nat) : List NV := lat (ns.take i) k ++ ns.drop i
theorem latK_0 (ns : List NV) (k : Int) : latK ns k 0 = ns := by simp [latK, lat]
theorem latK_all (ns : List NV) (k : Int) : latK ns k ns.length = lat ns k := by simp [latK]
theorem latK_len {ns : List NV} {k : Int} {i : Nat} (h : i ≤ ns.length) : (latK ns k i).length = ns.length := by
  unfold latK
  rw [List.length_append, lat_len, List.length_take, List.length_drop]
  omega
theorem latK_get {ns : List NV} {k : Int} {i j : Nat} (hi : i ≤ ns.length) (hj : j < ns.length) : (latK ns k i).getD j Z2 = if j < i then ((ns.getD j Z2).1 + k, (ns.getD j Z2).2) else ns.getD j Z2 := by
  unfold latK
  have hl : (lat (ns.take i) k).length = i := by rw [lat_len, List.length_take]; omega
  by_cases h : j < i
  · rw [if_pos h]
    have h2 : (lat (ns.take i) k ++ ns.drop i).getD j Z2 = (lat (ns.take i) k).getD j Z2 := by
      rw [List.getD_eq_getElem?_getD, List.getElem?_append_left (by omega), ← List.getD_eq_getElem?_getD]
    rw [h2, lat_get (by simp; omega), getD_take h]
  · rw [if_neg h, List.getD_eq_getElem?_getD, List.getElem?_append_right (by omega), hl, List.getElem?_drop, show i + (j - i) = j by omega, List.getD_eq_getElem?_getD]
theorem nv_ext {xs ys : List NV} (hl : xs.length = ys.length) (h : ∀ j, j < xs.length → xs.getD j Z2 = ys.getD j Z2) : xs = ys := by
  apply List.ext_getElem? 
  intro j
  by_cases hj : j < xs.length
  · have := h j hj
    rw [List.getD_eq_getElem?_getD, List.getD_eq_getElem?_getD, List.getElem?_eq_getElem hj, List.getElem?_eq_getElem (by omega)] at this
    simp only [Option.getD_some] at this
    rw [List.getElem?_eq_getElem hj, List.getElem?_eq_getElem (by omega), this]
  · rw [List.getElem?_eq_none (by omega), List.getElem?_eq_none (by omega)]
theorem latK_succ {ns : List NV} {k : Int} {i : Nat} (h : i < ns.length) : (latK ns k i).set i ((ns.getD i Z2).1 + k, ((latK ns k i).getD i Z2).2) = latK ns k (i + 1) := by
  have e1 : (latK ns k i).length = ns.length := latK_len (by omega)
  refine nv_ext (by rw [List.length_set, e1, latK_len (by omega)]) fun j hj => ?_
  rw [List.length_set, e1] at hj
  rw [latK_get (by omega) hj, latK_get (by omega) h, if_neg (show ¬ i < i by omega)]
  by_cases e : j = i
  · subst e
    rw [if_pos (by omega)]
    simp [List.getD, e1, h]
  · have h2 : ((latK ns k i).set i ((ns.getD i Z2).1 + k, (ns.getD i Z2).2)).getD j Z2 = (latK ns k i).getD j Z2 := by
      simp [List.getD, List.getElem?_set, show ¬ i = j from fun h => e h.symm]
    rw [h2, latK_get (by omega) hj]
    by_cases h3 : j < i
    · rw [if_pos h3, if_pos (by omega)]
    · rw [if_neg h3, if_neg (by omega)]
theorem lateB_f {ns : List NV} {k : Int} (h : regB ns = false) : lateB ns k = false := by unfold lateB; rw [h]; rfl
theorem lateB_nil {k : Int} : lateB [] k = true := by
  have : regB [] = true := rfl
  unfold lateB
  rw [this]; rfl
theorem lateB_out {ns : List NV} {k : Int} (h0 : 0 < ns.length) (h : k < -2000 ∨ 2000 < k) : lateB ns k = false := by
  unfold lateB
  rw [inB_false h, dec_f (show ¬ ns.length = 0 by omega)]
  simp
theorem lateB_in {ns : List NV} {k : Int} (hv : regB ns = true) (h0 : 0 < ns.length) (h : -2000 ≤ k ∧ k ≤ 2000) : lateB ns k = regB (lat ns k) := by
  unfold lateB
  rw [inB_true h, hv, dec_f (show ¬ ns.length = 0 by omega)]
  simp
/-- What RegisterLate leaves. -/
def LateR (w : World) (ns : List NV) (k : Int) : Ending → World → Prop := NewNtB w (if lateB ns k then lat ns k else []) (lateB ns k)
theorem lateR_f {w : World} {ns : List NV} {k : Int} (h : lateB ns k = false) : LateR w ns k = NewNtB w [] false := by unfold LateR; rw [h]; rfl
theorem lateR_t {w : World} {ns : List NV} {k : Int} (h : lateB ns k = true) : LateR w ns k = NewNtB w (lat ns k) true := by unfold LateR; rw [h]; rfl
set_option maxHeartbeats 3200000 in
theorem implLate_any (A : Option Addr) (c : Nat) (ns : List NV) (x : Int) (w : World) (hs : SzNt ns) (hr : RdNt w A ns) :
    Calls Try.prog 19 #[.slice A ns.length c, .int .i64 x] w (LateR w ns x) := by
  have HRO := Lib.hid (registerOf_any A c ns w (by have := hs.1; omega) hs.2 hr)
  clear hr hs
  cases hv : regB ns with
  | false =>
    rw [hv] at HRO
    rw [lateR_f (lateB_f hv)]
    clear hv
    go_enter Try.func19, Try.ntmps19
    go_wp2_with fail
    refine HRO.out.mono ?_
    rintro e w1 ⟨R, rfl, hb1, _⟩
    have B1 := Lib.hid hb1
    clear hb1
    go_wp2_with fail
    go_ret2
    exact ⟨w1.heap.size, 0, rfl, ownNm_empty w1 w.heap.size B1.out.size, below_new' B1.out _⟩
  | true =>
  rw [hv] at HRO
  by_cases h0 : ns.length = 0
  · obtain rfl := List.eq_nil_of_length_eq_zero h0
    rw [lateR_t lateB_nil]
    clear hv h0
    go_enter Try.func19, Try.ntmps19
    go_wp2_with fail
    refine HRO.out.mono ?_
    rintro e w1 ⟨R, rfl, hb1, hex⟩
    obtain ⟨E, hr1⟩ := hex rfl
    obtain ⟨_, _, c2, _, _, _⟩ := hr1.cells
    simp only [List.length_nil] at c2
    have B1 := Lib.hid hb1
    clear hb1 hex hr1
    go_wp2_with fail
    go_ret2
    exact ⟨w1.heap.size, 0, rfl, ownNm_empty w1 w.heap.size B1.out.size, below_new' B1.out _⟩
  · have h0p : 0 < ns.length := by omega
    have t1 := beq_f (show (ns.length : Int) ≠ 0 by omega)
    have t1n : (ns.length == 0) = false := by simpa using h0
    have hl := reg_len hv
    have HBD := Lib.hid (fun k hk => reg_bd hv k hk)
    clear h0
    by_cases hx : x < -2000
    · rw [lateR_f (lateB_out h0p (.inl hx))]
      have t2 := dec_t hx
      clear hv hx
      go_enter Try.func19, Try.ntmps19
      go_wp2_with fail
      refine HRO.out.mono ?_
      rintro e w1 ⟨R, rfl, hb1, hex⟩
      obtain ⟨E, hr1⟩ := hex rfl
      obtain ⟨_, _, c2, _, _, _⟩ := hr1.cells
      have B1 := Lib.hid hb1
      clear hb1 hex hr1
      go_wp2_with fail
      go_ret2
      exact ⟨w1.heap.size, 0, rfl, ownNm_empty w1 w.heap.size B1.out.size, below_new' B1.out _⟩
    have t2 := dec_f hx
    by_cases hx2 : 2000 < x
    · rw [lateR_f (lateB_out h0p (.inr hx2))]
      have t3 := dec_t hx2
      clear hv hx hx2
      go_enter Try.func19, Try.ntmps19
      go_wp2_with fail
      refine HRO.out.mono ?_
      rintro e w1 ⟨R, rfl, hb1, hex⟩
      obtain ⟨E, hr1⟩ := hex rfl
      obtain ⟨_, _, c2, _, _, _⟩ := hr1.cells
      have B1 := Lib.hid hb1
      clear hb1 hex hr1
      go_wp2_with fail
      go_ret2
      exact ⟨w1.heap.size, 0, rfl, ownNm_empty w1 w.heap.size B1.out.size, below_new' B1.out _⟩
    have t3 := dec_f hx2
    have hxb : -2000 ≤ x ∧ x ≤ 2000 := by omega
    have HLB := Lib.hid (lateB_in hv h0p hxb)
    obtain ⟨P, hP⟩ : ∃ P, LateR w ns x = P := ⟨_, rfl⟩
    rw [hP]
    have HP := Lib.hid hP
    clear hv hx hx2 hP
    go_enter Try.func19, Try.ntmps19
    go_wp2_with fail
    refine HRO.out.mono ?_
    rintro e w1 ⟨R, rfl, hb1, hex⟩
    obtain ⟨E, hr1⟩ := hex rfl
    obtain ⟨c0, _, c2, _, _, _⟩ := hr1.cells
    have B1 := Lib.hid hb1
    have R1 := Lib.hid hr1
    have EB : Hid (∀ k, k < ns.length → w.heap.size ≤ E k) := Lib.hid (fun k hk => by have := hr1.2.2.1; have := hr1.2.2.2.1 k hk; omega)
    clear hb1 hex hr1
    go_wp2_with fail
    go_loopg [8] ns.length (fun q e wr => ∃ k : Nat, k ≤ ns.length ∧ q = ns.length - k ∧ e = .pointer (nxA E ns.length k) ∧ Reg wr w.heap.size R E (latK ns x k) ∧ Below w.heap.size w wr)
    case atStart => exact ⟨0, Nat.zero_le _, by omega, rfl, by rw [latK_0]; exact R1.out, B1.out⟩
    case round =>
      clear R1 B1 c0 c2
      obtain ⟨k, hk, hgk, rfl, hreg, hbel⟩ := hrel
      have HGK := Lib.hid hgk
      have HG := Lib.hid hreg
      have HB := Lib.hid hbel
      clear hgk hreg hbel
      by_cases hlt : k < ns.length
      · have he := nxA_t (E := E) hlt
        have el := latK_len (ns := ns) (k := x) hk
        obtain ⟨d0, _, d2, f0, _, _⟩ := HG.out.entry k (by omega)
        rw [el] at d2
        have hst := HG.out.store k (by omega) ((ns.getD k Z2).1 + x)
        rw [latK_succ hlt] at hst
        rw [latK_get hk hlt, if_neg (by omega)] at d0
        have hb := (HBD.out k hlt).1
        have hnE := EB.out k hlt
        generalize (ns.getD k Z2).1 = m at *
        have u1 : IntKind.i64.wrap (m + x) = m + x := IntWalk.i64_in _ (by omega)
        rw [he]
        have HST := Lib.hid hst
        have B2 := Lib.hid (HB.out.setCell (p := ⟨E k, 0, none⟩) hnE (.int .i64 (m + x)))
        have HLT := Lib.hid hlt
        clear he hlt el hst hnE
        go_wp2_with fail
        go_roundg (ns.length - (k + 1))
        case measure => have := HLT.out; have := HGK.out; omega
        case rel => exact ⟨k + 1, by have := HLT.out; omega, rfl, rfl, HST.out, B2.out⟩
      · have he := nxA_f (E := E) hlt
        rw [he]
        obtain rfl : k = ns.length := by omega
        rw [latK_all] at HG
        have HV := Lib.hid (valid_any w.heap.size R E (lat ns x) wr (by rw [lat_len]; omega) (fun j hj => by
          rw [lat_len] at hj
          rw [lat_get hj]
          have := (HBD.out j hj).2
          show (ns.getD j Z2).2.size ≤ _
          omega) HG.out)
        have hlen : (lat ns x).length ≤ 1000 := by rw [lat_len]; omega
        cases hw : regB (lat ns x) with
        | true =>
          have hP : P = NewNtB w (lat ns x) true := by rw [← HP.out]; exact lateR_t (HLB.out.trans hw)
          rw [hw] at HV
          clear HP
          subst hP
          generalize lat ns x = ms at *
          clear hw he hlt
          go_wp2_with fail
          refine HV.out.mono ?_
          rintro e w3 ⟨rfl, rfl⟩
          go_wp2_with fail
          refine (list_any _ R E ms _ hlen HG.out).mono ?_
          rintro e w3 ⟨g, c9, rfl, ho, hb3⟩
          have B3 := Lib.hid (below_to HB.out hb3 HB.out.size)
          have O3 := Lib.hid (OwnV.mono ho (base' := w.heap.size) (Nat.le_trans HB.out.size (OwnV.le ho)))
          clear ho hb3
          go_wp2_with fail
          go_ret2
          exact ⟨g, c9, rfl, O3.out, B3.out⟩
        | false =>
          have hP : P = NewNtB w [] false := by rw [← HP.out]; exact lateR_f (HLB.out.trans hw)
          rw [hw] at HV
          clear HP
          subst hP
          generalize lat ns x = ms at *
          clear hw he hlt
          go_wp2_with fail
          refine HV.out.mono ?_
          rintro e w3 ⟨rfl, rfl⟩
          go_wp2_with fail
          go_ret2
          exact ⟨wr.heap.size, 0, rfl, ownNm_empty wr w.heap.size HB.out.size, below_new' HB.out _⟩
end Go.Proofs.Ytebejpaghajhkaa
