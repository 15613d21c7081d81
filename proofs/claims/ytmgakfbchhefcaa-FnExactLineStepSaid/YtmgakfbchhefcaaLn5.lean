/-
  Lines: a railway of a line. No condition.
-/
import Derived.Test.YtmgakfbchhefcaaLn4
namespace Go.Proofs.Ytmgakfbchhefcaa
open Go.RowKit
set_option linter.unusedVariables false
set_option linter.unusedSimpArgs false

theorem AtInts.at0 {w : World} {b : Nat} {zs : List Int} (h : AtInts w b 0 zs) {k : Nat} (hk : k < zs.length) : w.cell? ⟨b, k, none⟩ = some (.int .i64 (zs.getD k 0)) := by
  have := h k hk
  rwa [Nat.zero_add] at this
theorem AtBl.at0 {w : World} {b : Nat} {bs : List BV} (h : AtBl w b 0 bs) {k : Nat} (hk : k < bs.length) : w.cell? ⟨b, k * 3, none⟩ = some (.int .i64 (bs.getD k Z3).1) ∧ w.cell? ⟨b, k * 3 + 1, none⟩ = some (.bool (bs.getD k Z3).2.1) ∧ w.cell? ⟨b, k * 3 + 2, none⟩ = some (.bool (bs.getD k Z3).2.2) := by
  have := h k hk
  simpa only [Nat.zero_add] using this

/-- p holds of the first k. -/
def allK (p : Nat → Bool) : Nat → Bool
  | 0 => true
  | k + 1 => allK p k && p k
theorem allK_iff {p : Nat → Bool} {k : Nat} : allK p k = true ↔ ∀ j, j < k → p j = true := by
  induction k with
  | zero => simp [allK]
  | succ k ih =>
    simp only [allK, Bool.and_eq_true, ih]
    constructor
    · rintro ⟨h1, h2⟩ j hj
      rcases Nat.lt_succ_iff_lt_or_eq.1 hj with h | rfl
      · exact h1 j h
      · exact h2
    · intro h; exact ⟨fun j hj => h j (by omega), h k (by omega)⟩
theorem allK_no {p : Nat → Bool} {k n : Nat} (hk : k < n) (h : p k = false) : allK p n = false := by
  rw [Bool.eq_false_iff]
  intro hp
  rw [allK_iff.1 hp k hk] at h
  cases h
theorem allK_succ {p : Nat → Bool} {k : Nat} (h : allK p k = true) (h' : p k = true) : allK p (k + 1) = true := by simp only [allK, h, h', Bool.and_self]

def plcB (n : Nat) (ts : List Int) (k : Nat) : Bool := inB 0 (2 * n) (ts.getD k 0) && (decide (k = 0) || decide (ts.getD k 0 ≤ ts.getD (k - 1) 0))
def insB (bs : List BV) (ts : List Int) (k : Nat) : Bool := decide ((cntT ts (2 * (k : Int) + 1) ts.length : Int) = if (bs.getD k Z3).2.1 then 1 else 0)
/-- Whether a line is valid. -/
def lineB (bs : List BV) (ts : List Int) : Bool := (inB 1 5 bs.length && possK bs bs.length) && (decide (ts.length ≤ 5) && (allK (plcB bs.length ts) ts.length && allK (insB bs ts) bs.length))
theorem lineB_mk {bs : List BV} {ts : List Int} (h1 : (inB 1 5 bs.length && possK bs bs.length) = true) (h2 : ts.length ≤ 5) (h3 : allK (plcB bs.length ts) ts.length = true) (h4 : allK (insB bs ts) bs.length = true) : lineB bs ts = true := by
  unfold lineB; rw [h1, h3, h4]; simp [h2]
theorem lineB_f1 {bs : List BV} {ts : List Int} (h1 : (inB 1 5 bs.length && possK bs bs.length) = false) : lineB bs ts = false := by unfold lineB; rw [h1]; rfl
theorem lineB_f2 {bs : List BV} {ts : List Int} (h2 : ¬ ts.length ≤ 5) : lineB bs ts = false := by unfold lineB; simp [h2]
theorem lineB_f3 {bs : List BV} {ts : List Int} {k : Nat} (hk : k < ts.length) (h3 : plcB bs.length ts k = false) : lineB bs ts = false := by unfold lineB; rw [allK_no hk h3]; simp
theorem lineB_f4 {bs : List BV} {ts : List Int} {k : Nat} (hk : k < bs.length) (h3 : insB bs ts k = false) : lineB bs ts = false := by unfold lineB; rw [allK_no hk h3]; simp
theorem lineB_parts {bs : List BV} {ts : List Int} (h : lineB bs ts = true) : (inB 1 5 bs.length && possK bs bs.length) = true ∧ ts.length ≤ 5 ∧ allK (plcB bs.length ts) ts.length = true ∧ allK (insB bs ts) bs.length = true := by
  unfold lineB at h
  simp only [Bool.and_eq_true, decide_eq_true_eq] at h
  exact ⟨by simp [h.1.1, h.1.2], h.2.1, h.2.2.1, h.2.2.2⟩
theorem lineB_n {bs : List BV} {ts : List Int} (h : lineB bs ts = true) : 1 ≤ bs.length ∧ bs.length ≤ 5 ∧ ts.length ≤ 5 := by
  obtain ⟨h1, h2, _⟩ := lineB_parts h
  rw [Bool.and_eq_true] at h1
  have := inB_iff.1 h1.1
  omega
theorem plcB_f1 {n k : Nat} {ts : List Int} {x : Int} (hx : ts.getD k 0 = x) (h : x < 0 ∨ 2 * (n : Int) < x) : plcB n ts k = false := by
  unfold plcB; rw [hx, inB_false h]; rfl
theorem plcB_f2 {n k : Nat} {ts : List Int} {x y : Int} (hx : ts.getD k 0 = x) (hy : ts.getD (k - 1) 0 = y) (hk : k ≠ 0) (h : y < x) : plcB n ts k = false := by
  unfold plcB; rw [hx, hy]; simp [hk, show ¬ x ≤ y by omega]
theorem plcB_t0 {n k : Nat} {ts : List Int} {x : Int} (hx : ts.getD k 0 = x) (h : 0 ≤ x ∧ x ≤ 2 * (n : Int)) (hk : k = 0) : plcB n ts k = true := by
  unfold plcB; rw [hx, inB_true h]; simp [hk]
theorem plcB_t1 {n k : Nat} {ts : List Int} {x y : Int} (hx : ts.getD k 0 = x) (hy : ts.getD (k - 1) 0 = y) (h : 0 ≤ x ∧ x ≤ 2 * (n : Int)) (hxy : x ≤ y) : plcB n ts k = true := by
  unfold plcB; rw [hx, hy, inB_true h]; simp [hxy]

/-- A railway in memory that the call made. -/
def RwO (w : World) (base R g d g' d' : Nat) (bs : List BV) (ts : List Int) : Prop :=
  Blk w R 101 #[.slice (some ⟨g, 0, none⟩) bs.length d, .slice (some ⟨g', 0, none⟩) ts.length d'] ∧ OwnB w base g d bs ∧ Own w base g' d' ts ∧ base ≤ R ∧ R ≠ g ∧ R ≠ g' ∧ g ≠ g'
theorem RwO.rw {w : World} {base R g d g' d' : Nat} {bs : List BV} {ts : List Int} (h : RwO w base R g d g' d' bs ts) : Rw w R g d g' d' bs ts := ⟨h.1, h.2.1.at, h.2.2.1.at⟩
theorem RwO.below {w w' : World} {base R g d g' d' : Nat} {bs : List BV} {ts : List Int} (h : RwO w base R g d g' d' bs ts) (hb : Below w.heap.size w w') : RwO w' base R g d g' d' bs ts :=
  ⟨h.1.below hb h.1.lt, h.2.1.below hb h.2.1.lt, h.2.2.1.below hb h.2.2.1.lt, h.2.2.2⟩
theorem RwO.cell0 {w : World} {base R g d g' d' : Nat} {bs : List BV} {ts : List Int} (h : RwO w base R g d g' d' bs ts) : w.cell? ⟨R, 0, none⟩ = some (.slice (some ⟨g, 0, none⟩) bs.length d) := by
  have := h.1.cell 0
  simpa using this
theorem RwO.cell1 {w : World} {base R g d g' d' : Nat} {bs : List BV} {ts : List Int} (h : RwO w base R g d g' d' bs ts) : w.cell? ⟨R, 1, none⟩ = some (.slice (some ⟨g', 0, none⟩) ts.length d') := by
  have := h.1.cell 1
  simpa using this
/-- What railwayOf leaves. -/
def RailV (w : World) (bs : List BV) (ts : List Int) (V : Bool) (e : Ending) (w' : World) : Prop :=
  ∃ p, e = .returned (.tuple #[p, .bool V]) ∧ Below w.heap.size w w' ∧ (V = true → ∃ R g d g' d', p = .pointer (some ⟨R, 0, none⟩) ∧ RwO w' w.heap.size R g d g' d' bs ts)

set_option maxHeartbeats 3200000 in
theorem railwayOf_any (b c t c' : Nat) (bs : List BV) (ts : List Int) (w : World) (hn : bs.length ≤ 1048576) (hm : ts.length ≤ 1048576) (hb : b < w.heap.size) (ht : t < w.heap.size) (ha : AtBl w b 0 bs) (hi : AtInts w t 0 ts) :
    Calls Try.prog 51 #[.agg #[.slice (some ⟨b, 0, none⟩) bs.length c, .slice (some ⟨t, 0, none⟩) ts.length c']] w (RailV w bs ts (lineB bs ts)) := by
  obtain ⟨V, hV⟩ : ∃ V, lineB bs ts = V := ⟨_, rfl⟩
  have HV := Lib.hid hV
  rw [hV]
  clear hV
  have HCB := Lib.hid (fun W h1 h2 => cloneB_any b 0 c bs W hn h1 h2)
  have HCT := Lib.hid (fun W h1 h2 => clone_any t 0 c' ts W hm h1 h2)
  have HA := Lib.hid ha
  have HI := Lib.hid hi
  clear ha hi
  go_enter Try.func51, Try.ntmps51
  go_wp2_with fail
  generalize hW1 : w.alloc (.cells #[.slice (some ⟨b, 0, none⟩) bs.length c, .slice (some ⟨t, 0, none⟩) ts.length c'] 32) = W1
  have kW : Blk W1 w.heap.size 32 #[.slice (some ⟨b, 0, none⟩) bs.length c, .slice (some ⟨t, 0, none⟩) ts.length c'] := by rw [← hW1]; exact Blk.new w _ _
  have bW : Below w.heap.size w W1.drew := by rw [← hW1]; exact (below_new w _).drew
  have c0 := kW.cell 0
  have c1 := kW.cell 1
  have l0 := kW.lt
  simp only [List.getElem?_toArray, List.getElem?_cons_zero, List.getElem?_cons_succ] at c0 c1
  have HA1 := Lib.hid (HA.out.below bW hb)
  have HI1 := Lib.hid (HI.out.below bW ht)
  have HLB := Lib.hid (Nat.lt_of_lt_of_le hb bW.size)
  have HLT := Lib.hid (Nat.lt_of_lt_of_le ht bW.size)
  have BW := Lib.hid bW
  clear kW bW hW1 HA HI hb ht
  go_region_held3 (fun w' => w'.cell? ⟨w.heap.size, 0, none⟩ = some (.slice (some ⟨b, 0, none⟩) bs.length c) ∧ w'.cell? ⟨w.heap.size, 1, none⟩ = some (.slice (some ⟨t, 0, none⟩) ts.length c')) (go_keep) (first | (go_at_call 81; go_must (go_fit (HCB.out _ HA1.out HLB.out); rintro e w2 ⟨g, d, rfl, ho2, hb2⟩; have d0 := (hb2.cell (p := ⟨w.heap.size, 0, none⟩) (by simpa using l0)).trans (by simpa using c0); have d1 := (hb2.cell (p := ⟨w.heap.size, 1, none⟩) (by simpa using l0)).trans (by simpa using c1); have O2 := Lib.hid ho2; have B2 := Lib.hid hb2; clear ho2 hb2)) | (go_at_call 82; go_must (go_fit (HCT.out _ (HI1.out.below B2.out HLT.out) (Nat.lt_of_lt_of_le HLT.out B2.out.size)); rintro e w3 ⟨g', d', rfl, ho3, hb3⟩; have O3 := Lib.hid ho3; have B3 := Lib.hid hb3; have f0 := (hb3.cell (p := ⟨w.heap.size, 0, none⟩) (Nat.lt_of_lt_of_le (by simpa using l0) B2.out.size)).trans d0; have f1 := (hb3.cell (p := ⟨w.heap.size, 1, none⟩) (Nat.lt_of_lt_of_le (by simpa using l0) B2.out.size)).trans d1; clear ho3 hb3)))
  have hbase : w.heap.size ≤ W1.drew.heap.size := BW.out.size
  have b3 : Below w.heap.size w w3 := below_to (below_to BW.out B2.out hbase) B3.out (Nat.le_trans hbase B2.out.size)
  have o2 : OwnB w3 w.heap.size g d bs := OwnV.mono (OwnV.below O2.out B3.out (OwnB.lt O2.out)) (Nat.le_trans hbase (OwnB.le O2.out))
  have o3 : Own w3 w.heap.size g' d' ts := OwnV.mono O3.out (Nat.le_trans (Nat.le_trans hbase B2.out.size) (Own.le O3.out))
  have hne : g ≠ g' := by have := OwnB.lt O2.out; have := Own.le O3.out; omega
  have hR : RwO (w3.alloc (.cells #[.slice (some ⟨g, 0, none⟩) bs.length d, .slice (some ⟨g', 0, none⟩) ts.length d'] 101)) w.heap.size w3.heap.size g d g' d' bs ts :=
    ⟨Blk.new _ _ _, OwnV.alloc o2 _, OwnV.alloc o3 _, b3.size, by have := o2.lt; omega, by have := o3.lt; omega, hne⟩
  have b4 := below_new' b3 (.cells #[.slice (some ⟨g, 0, none⟩) bs.length d, .slice (some ⟨g', 0, none⟩) ts.length d'] 101)
  generalize w3.alloc (.cells #[.slice (some ⟨g, 0, none⟩) bs.length d, .slice (some ⟨g', 0, none⟩) ts.length d'] 101) = W4 at *
  generalize w3.heap.size = R at *
  have HR := Lib.hid hR
  have B4 := Lib.hid b4
  have r0 := hR.cell0
  have r1 := hR.cell1
  clear hR b4 b3 o2 o3 hne f0 f1 d0 d1 c0 c1 l0 O2 B2 O3 B3 BW HA1 HI1 HLB HLT HCB HCT hbase
  have hpo := fun W h1 h2 => possible_any g 0 d bs W hn h1 h2
  obtain ⟨P, hP⟩ : ∃ P, (inB 1 5 (bs.length : Int) && possK bs bs.length) = P := ⟨_, rfl⟩
  rw [hP] at hpo
  have HP := Lib.hid hP
  have HPO := Lib.hid hpo
  clear hP hpo
  cases P
  case false =>
    have hVf : V = false := HV.out.symm.trans (lineB_f1 HP.out)
    subst hVf
    go_wp2_with (go_at_call 83; go_must (go_fit (HPO.out _ HR.out.2.1.lt HR.out.2.1.at); rintro e w5 ⟨rfl, hb5⟩; have B5 := Lib.hid (below_to B4.out hb5 B4.out.size); clear hb5))
    go_ret2
    exact ⟨_, rfl, B5.out, fun h => by cases h⟩
  case true =>
    have hn5 : bs.length ≤ 5 := by
      have := HP.out
      rw [Bool.and_eq_true] at this
      have := inB_iff.1 this.1
      omega
    have e5 : ∀ w5, Below W4.heap.size W4 w5 → Below w.heap.size w w5 ∧ RwO w5 w.heap.size R g d g' d' bs ts := fun w5 h => ⟨below_to B4.out h B4.out.size, HR.out.below h⟩
    have E5 := Lib.hid e5
    clear e5
    by_cases ht5 : ts.length ≤ 5
    · have t5 := dec_f (show ¬ (5 : Int) < (ts.length : Int) by omega)
      have t5n := dec_f (show ¬ 5 < ts.length by omega)
      go_wp2_with (go_at_call 83; go_must (go_fit (HPO.out _ HR.out.2.1.lt HR.out.2.1.at); rintro e w5 ⟨rfl, hb5⟩; have B5 := Lib.hid (E5.out _ hb5).1; have R5 := Lib.hid (E5.out _ hb5).2; have s0 := R5.out.cell0; have s1 := R5.out.cell1; clear hb5 r0 r1))
      clear HPO E5 HR B4
      go_loop [5, 6, 36] (fun a5 a6 i => ∃ k : Nat, k ≤ ts.length ∧ i = .int .i64 k ∧ allK (plcB bs.length ts) k = true) (fun _ _ i => ts.length - (intOf i).toNat)
      case atStart => exact ⟨0, Nat.zero_le _, rfl, rfl⟩
      case round =>
        obtain ⟨k, hk, rfl, hpk⟩ := hrel
        have HPK := Lib.hid hpk
        clear hpk
        by_cases hlt : k < ts.length
        · have hc := R5.out.2.2.1.at.at0 hlt
          have i1 : (k : Int) < (ts.length : Int) := by omega
          obtain ⟨x, hx⟩ : ∃ x, ts.getD k 0 = x := ⟨_, rfl⟩
          rw [hx] at hc
          have HX := Lib.hid hx
          have u2 : IntKind.i64.wrap (2 * (bs.length : Int)) = 2 * (bs.length : Int) := IntWalk.i64_in _ (by omega)
          by_cases h1 : x < 0
          · have hVf : V = false := HV.out.symm.trans (lineB_f3 hlt (plcB_f1 hx (.inl h1)))
            subst hVf
            have t1 := dec_t h1
            clear hx
            go_wp2_with fail
            go_ret2
            exact ⟨_, rfl, B5.out, fun h => by cases h⟩
          by_cases h2 : 2 * (bs.length : Int) < x
          · have hVf : V = false := HV.out.symm.trans (lineB_f3 hlt (plcB_f1 hx (.inr h2)))
            subst hVf
            have t1 := dec_f h1
            have t2 := dec_t h2
            clear hx
            go_wp2_with fail
            go_ret2
            exact ⟨_, rfl, B5.out, fun h => by cases h⟩
          have t1 := dec_f h1
          have t2 := dec_f h2
          by_cases hk0 : k = 0
          · have HN := Lib.hid (allK_succ HPK.out (plcB_t0 (n := bs.length) hx ⟨by omega, by omega⟩ hk0))
            have t3 := dec_f (show ¬ (0 : Int) < (k : Int) by omega)
            have t3n := dec_f (show ¬ 0 < k by omega)
            clear hx hk0
            go_wp2_with fail
            go_round
            case rel => exact ⟨k + 1, by omega, by go_num, HN.out⟩
            case measure => simp [intOf]; omega
          · have hcy := R5.out.2.2.1.at.at0 (show k - 1 < ts.length by omega)
            obtain ⟨y, hy⟩ : ∃ y, ts.getD (k - 1) 0 = y := ⟨_, rfl⟩
            rw [hy] at hcy
            have t3 := dec_t (show (0 : Int) < (k : Int) by omega)
            have t3n := dec_t (show 0 < k by omega)
            have i2 : (0 : Int) ≤ (k : Int) - 1 := by omega
            have i3 : (k : Int) - 1 < (ts.length : Int) := by omega
            by_cases h3 : y < x
            · have hVf : V = false := HV.out.symm.trans (lineB_f3 hlt (plcB_f2 hx hy hk0 h3))
              subst hVf
              have t4 := dec_t h3
              clear hx hy
              go_wp2_with fail
              go_ret2
              exact ⟨_, rfl, B5.out, fun h => by cases h⟩
            · have HN := Lib.hid (allK_succ HPK.out (plcB_t1 (n := bs.length) hx hy ⟨by omega, by omega⟩ (by omega)))
              have t4 := dec_f h3
              clear hx hy
              go_wp2_with fail
              go_round
              case rel => exact ⟨k + 1, by omega, by go_num, HN.out⟩
              case measure => simp [intOf]; omega
        · have hke : k = ts.length := by omega
          have h3 := HPK.out
          rw [hke] at h3
          have H3 := Lib.hid h3
          clear h3 HPK hke
          go_wp2_with fail
          go_loop [7, 8, 73] (fun a7 a8 i => ∃ k : Nat, k ≤ bs.length ∧ i = .int .i64 k ∧ allK (insB bs ts) k = true) (fun _ _ i => bs.length - (intOf i).toNat)
          case atStart => exact ⟨0, Nat.zero_le _, rfl, rfl⟩
          case round =>
            obtain ⟨j, hj, rfl, hpk⟩ := hrel
            have HPK := Lib.hid hpk
            clear hpk
            by_cases hltj : j < bs.length
            · obtain ⟨p0, p1, p2⟩ := R5.out.2.1.at.at0 hltj
              have i1 : (j : Int) < (bs.length : Int) := by omega
              have hcn := count_any R g d g' d' bs ts (2 * (j : Int) + 1) w5 hm R5.out.rw
              have hins : insB bs ts j = decide ((cntT ts (2 * (j : Int) + 1) ts.length : Int) = if (bs.getD j Z3).2.1 then 1 else 0) := rfl
              have HF := Lib.hid (fun h => HV.out.symm.trans (lineB_f4 hltj h))
              have HT := Lib.hid (fun h => allK_succ HPK.out (p := insB bs ts) (k := j) h)
              obtain ⟨x, hx⟩ : ∃ x, bs.getD j Z3 = x := ⟨_, rfl⟩
              rw [hx] at p0 p1 p2 hins
              generalize cntT ts (2 * (j : Int) + 1) ts.length = C at *
              obtain ⟨xn, xi, xo⟩ := x
              simp only at p0 p1 p2 hins
              have HCN := Lib.hid hcn
              clear hcn hx p0 p2
              cases xi
              case true =>
                simp only [if_true] at hins
                by_cases hC : C = 1
                · have HN := Lib.hid (HT.out (by rw [hins]; simp [hC]))
                  have t1 := bne_f (show (C : Int) = 1 by omega)
                  have t1n : (C != 1) = false := by simp [hC]
                  clear hins hC
                  go_wp2_with (go_at_call 71; go_must (go_fit HCN.out; rintro e w6 ⟨rfl, rfl⟩))
                  go_round
                  case rel => exact ⟨j + 1, by omega, by go_num, HN.out⟩
                  case measure => simp [intOf]; omega
                · have hVf := HF.out (by rw [hins]; exact dec_f (by omega))
                  subst hVf
                  have t1 := bne_t (show (C : Int) ≠ 1 by omega)
                  have t1n : (C != 1) = true := by simp [hC]
                  clear hins
                  go_wp2_with (go_at_call 71; go_must (go_fit HCN.out; rintro e w6 ⟨rfl, rfl⟩))
                  go_ret2
                  exact ⟨_, rfl, B5.out, fun h => by cases h⟩
              case false =>
                simp only [Bool.false_eq_true, if_false] at hins
                by_cases hC : C = 0
                · have HN := Lib.hid (HT.out (by rw [hins]; simp [hC]))
                  have t1 := bne_f (show (C : Int) = 0 by omega)
                  have t1n : (C != 0) = false := by simp [hC]
                  clear hins hC
                  go_wp2_with (go_at_call 71; go_must (go_fit HCN.out; rintro e w6 ⟨rfl, rfl⟩))
                  go_round
                  case rel => exact ⟨j + 1, by omega, by go_num, HN.out⟩
                  case measure => simp [intOf]; omega
                · have hVf := HF.out (by rw [hins]; exact dec_f (by omega))
                  subst hVf
                  have t1 := bne_t (show (C : Int) ≠ 0 by omega)
                  have t1n : (C != 0) = true := by simp [hC]
                  clear hins
                  go_wp2_with (go_at_call 71; go_must (go_fit HCN.out; rintro e w6 ⟨rfl, rfl⟩))
                  go_ret2
                  exact ⟨_, rfl, B5.out, fun h => by cases h⟩
            · have hke : j = bs.length := by omega
              have h4 := HPK.out
              rw [hke] at h4
              have hVt : V = true := HV.out.symm.trans (lineB_mk HP.out ht5 H3.out h4)
              subst hVt
              clear h4 hke
              go_wp2_with fail
              go_ret2
              exact ⟨_, rfl, B5.out, fun _ => ⟨R, g, d, g', d', rfl, R5.out⟩⟩
    · have hVf : V = false := HV.out.symm.trans (lineB_f2 ht5)
      subst hVf
      have t5 := dec_t (show (5 : Int) < (ts.length : Int) by omega)
      have t5n := dec_t (show 5 < ts.length by omega)
      go_wp2_with (go_at_call 83; go_must (go_fit (HPO.out _ HR.out.2.1.lt HR.out.2.1.at); rintro e w5 ⟨rfl, hb5⟩; have B5 := Lib.hid (E5.out _ hb5).1; have R5 := Lib.hid (E5.out _ hb5).2; have s0 := R5.out.cell0; have s1 := R5.out.cell1; clear hb5 r0 r1))
      go_ret2
      exact ⟨_, rfl, B5.out, fun h => by cases h⟩
end Go.Proofs.Ytmgakfbchhefcaa
