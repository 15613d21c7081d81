/-
  The law FnLineNew. No condition.
-/
import Derived.Test.YtmgakfbchhefcaaLn17
import Derived.Test.YtmgakfbchhefcaaLn9
import Derived.Test.YtmgakfbchhefcaaLl1
namespace Go.Proofs.Ytmgakfbchhefcaa
open Go.RowKit
set_option linter.unusedVariables false
set_option linter.unusedSimpArgs false

/-- A variable of the law's that holds a line of its own. -/
def Vr (w W : World) (P g d g' d' : Nat) (bs : List BV) (ts : List Int) : Prop := Below w.heap.size w W ∧ LnAt W P g d g' d' bs ts
theorem Vr.step {w W W' : World} {P g d g' d' : Nat} {bs : List BV} {ts : List Int} (h : Vr w W P g d g' d' bs ts) (k : Below W.heap.size W W') : Vr w W' P g d g' d' bs ts := ⟨below_to h.1 k h.1.size, h.2.below k⟩
set_option maxHeartbeats 3200000 in
theorem law_LineNew (A : Option Addr) (c : Nat) (ys : List Int) (w : World) (hq : ArgBytes w A c ys) :
    Calls Try.prog 5 #[.slice A ys.length c] w fun e w' => e = .returned (.bool true) ∧ Below w.heap.size w w' := by
  obtain ⟨hr, hlc, hc⟩ := hq
  by_cases hbig : 1048576 < ys.length
  · have t0 := dec_t (show (1048576 : Int) < (ys.length : Int) by omega)
    go_enter Try.func5, Try.ntmps5
    go_wp2_with fail
    go_ret
    exact ⟨rfl, Below.refl _ _⟩
  have t0 := dec_f (show ¬ (1048576 : Int) < (ys.length : Int) by omega)
  have HD := Lib.hid (draw_lnew A c ys.length w hlc hc hr)
  clear hr
  go_enter Try.func5, Try.ntmps5
  go_wp2_with fail
  refine HD.out.mono ?_
  rintro e w1 ⟨x, y, rfl, hx, hy, hb1⟩
  have B1 := Lib.hid hb1
  clear hb1 HD
  have hin := fun w => implNew_any (x : Int) ((y : Int) - 1) w
  have hsn := fun w => specNew_any (x : Int) ((y : Int) - 1) w
  by_cases hok : (inB 1 5 (x : Int) && inB 0 5 ((y : Int) - 1)) = true
  · obtain ⟨t, ht⟩ : ∃ t : Nat, (y : Int) - 1 = (t : Int) := ⟨y - 1, by rw [Bool.and_eq_true] at hok; have := inB_iff.1 hok.2; omega⟩
    rw [ht] at hin hsn hok ⊢
    have hnm : (1 ≤ x ∧ x ≤ 5) ∧ t ≤ 5 := by
      rw [Bool.and_eq_true] at hok
      have h1 := inB_iff.1 hok.1
      have h2 := inB_iff.1 hok.2
      omega
    have hall := newOk_all x (by omega) t (by omega) (by omega)
    unfold newOk at hall
    simp only [new_some hok] at hin hsn
    obtain ⟨bs, hbs⟩ : ∃ bs, List.replicate x Z3 = bs := ⟨_, rfl⟩
    obtain ⟨ts, hts⟩ : ∃ ts, List.replicate t (0 : Int) = ts := ⟨_, rfl⟩
    obtain rfl : x = bs.length := by rw [← hbs]; simp
    obtain rfl : t = ts.length := by rw [← hts]; simp
    rw [hbs, hts] at hall
    simp only [hbs, hts] at hin hsn
    clear hbs hts hok ht
    simp only [Bool.and_eq_true, decide_eq_true_eq, beq_iff_eq] at hall
    obtain ⟨hv, hwt, hlf, hdn⟩ := hall
    have HIN := Lib.hid hin
    have HSN := Lib.hid hsn
    have hsame := fun (W : World) (b c t d b' c' t' d' P Q : Nat) (h : LnAt W P b c t d bs ts) (k : LnAt W Q b' c' t' d' bs ts) => sameLine_same b c t d b' c' t' d' bs ts W (by omega) (by omega) h.2.2.2.1 h.2.2.2.2 k.2.2.2.1 k.2.2.2.2 h.2.1 h.2.2.1 k.2.1 k.2.2.1
    have hvl := fun (W : World) (P b c t d : Nat) (h : LnAt W P b c t d bs ts) => implValid_any b c t d bs ts W (by omega) (by omega) h.2.2.2.1 h.2.2.2.2 h.2.1 h.2.2.1
    have hwa := fun (W : World) (P b c t d : Nat) (h : LnAt W P b c t d bs ts) => implWaits_any b c t d bs ts 0 W (by omega) (by omega) h.2.2.2.1 h.2.2.2.2 h.2.1 h.2.2.1
    have hle := fun (W : World) (P b c t d : Nat) (h : LnAt W P b c t d bs ts) => implLeft_any b c t d bs ts W (by omega) (by omega) h.2.2.2.1 h.2.2.2.2 h.2.1 h.2.2.1
    have hdo := fun (W : World) (P b c t d : Nat) (h : LnAt W P b c t d bs ts) => implDone_any b c t d bs ts W (by omega) (by omega) h.2.2.2.1 h.2.2.2.2 h.2.1 h.2.2.1
    rw [hv] at hvl
    rw [hwt] at hwa
    rw [hlf] at hle
    obtain ⟨D, hD⟩ : ∃ D, decide (ts.length = 0) = D := ⟨_, rfl⟩
    rw [hdn, hD] at hdo
    have hz2 : ((ts.length : Int) == 0) = D := by
      rw [← hD, Bool.eq_iff_iff, beq_iff_eq, decide_eq_true_eq]
      omega
    have HZ2 := Lib.hid hz2
    have HSAME := Lib.hid hsame
    have HVL := Lib.hid hvl
    have HWA := Lib.hid hwa
    have HLE := Lib.hid hle
    have HDO := Lib.hid hdo
    have hmul : 5 * bs.length * ts.length ≤ 5 * 5 * 5 := Nat.mul_le_mul (Nat.mul_le_mul (Nat.le_refl _) hnm.1.2) hnm.2
    have u1 : IntKind.i64.wrap (5 * (bs.length : Int)) = 5 * (bs.length : Int) := IntWalk.i64_in _ (by omega)
    have u2 : IntKind.i64.wrap (5 * (bs.length : Int) * (ts.length : Int)) = 5 * (bs.length : Int) * (ts.length : Int) := by
      have e : 5 * (bs.length : Int) * (ts.length : Int) = ((5 * bs.length * ts.length : Nat) : Int) := by simp
      rw [e]
      exact IntWalk.i64_in _ (by omega)
    have U1 := Lib.hid u1
    have U2 := Lib.hid u2
    have HNM := Lib.hid hnm
    clear hin hsn hsame hvl hwa hle hdo hv hwt hlf hdn hmul u1 u2 hy hz2 hD
    go_wp2_with fail
    refine (HIN.out _).mono ?_
    rintro e w2 ⟨g, d, g', d', rfl, ho, ho', hne, hb2⟩
    have V2 : Hid (Vr w (w2.alloc (.cells #[.slice (some ⟨g, 0, none⟩) bs.length d, .slice (some ⟨g', 0, none⟩) ts.length d'] 32)) w2.heap.size g d g' d' bs ts) := Lib.hid ⟨below_new' (below_to B1.out hb2 B1.out.size) _, LnAt.of (LnB.own ho ho')⟩
    clear ho ho' hne hb2 B1
    go_wp2_with fail
    generalize w2.alloc (.cells #[.slice (some ⟨g, 0, none⟩) bs.length d, .slice (some ⟨g', 0, none⟩) ts.length d'] 32) = X2 at *
    refine (HSN.out _).mono ?_
    rintro e w3 ⟨h, f, h', f', rfl, ho, ho', hne, hb3⟩
    have V3 : Hid (Vr w (w3.alloc (.cells #[.slice (some ⟨h, 0, none⟩) bs.length f, .slice (some ⟨h', 0, none⟩) ts.length f'] 32)) w2.heap.size g d g' d' bs ts) := Lib.hid ((V2.out.step hb3).step (below_new _ _))
    have Y3 : Hid (LnAt (w3.alloc (.cells #[.slice (some ⟨h, 0, none⟩) bs.length f, .slice (some ⟨h', 0, none⟩) ts.length f'] 32)) w3.heap.size h f h' f' bs ts) := Lib.hid (LnAt.of (LnB.own ho ho'))
    clear ho ho' hne V2
    have c0 := (V3.out.2).cell0
    have c1 := (V3.out.2).cell1
    clear hb3
    go_upto_region 6 with fail
    generalize w3.alloc (.cells #[.slice (some ⟨h, 0, none⟩) bs.length f, .slice (some ⟨h', 0, none⟩) ts.length f'] 32) = X3 at *
    have d0 := Y3.out.cell0
    have d1 := Y3.out.cell1
    go_wp2_with fail
    refine (HSAME.out _ _ _ _ _ _ _ _ _ _ _ V3.out.2 Y3.out).mono ?_
    rintro e w4 ⟨rfl, hb4⟩
    have V4 := Lib.hid (V3.out.step hb4)
    have c0 := V4.out.2.cell0
    have c1 := V4.out.2.cell1
    clear hb4 V3 Y3 d0 d1
    go_wp2_with fail
    refine (HVL.out _ _ _ _ _ _ V4.out.2).mono ?_
    rintro e w5 ⟨rfl, hb5⟩
    have V5 := Lib.hid (V4.out.step hb5)
    have c0 := V5.out.2.cell0
    have c1 := V5.out.2.cell1
    clear hb5 V4
    go_wp2_with fail
    refine (HWA.out _ _ _ _ _ _ V5.out.2).mono ?_
    rintro e w6 ⟨rfl, hb6⟩
    have V6 := Lib.hid (V5.out.step hb6)
    have c0 := V6.out.2.cell0
    have c1 := V6.out.2.cell1
    have q1 := beq_t (show (ts.length : Int) = (ts.length : Int) from rfl)
    clear hb6 V5
    go_wp2_with fail
    refine (HLE.out _ _ _ _ _ _ V6.out.2).mono ?_
    rintro e w7 ⟨rfl, hb7⟩
    have V7 := Lib.hid (V6.out.step hb7)
    have c0 := V7.out.2.cell0
    have c1 := V7.out.2.cell1
    have q2 := beq_t (show 5 * (bs.length : Int) * (ts.length : Int) = 5 * (bs.length : Int) * (ts.length : Int) from rfl)
    have u1 := U1.out
    have u2 := U2.out
    clear hb7 V6
    go_wp2_with fail
    refine (HDO.out _ _ _ _ _ _ V7.out.2).mono ?_
    rintro e w8 ⟨rfl, hb8⟩
    have V8 := Lib.hid (V7.out.step hb8)
    have c0 := V8.out.2.cell0
    have c1 := V8.out.2.cell1
    have q3 := beq_t (show (bs.length : Int) = (bs.length : Int) from rfl)
    clear hb8 V7 u1 u2 q1 q2
    have z2 := HZ2.out
    have z3 : (D == D) = true := by simp
    go_wp2_with fail
    go_ret
    exact ⟨rfl, V8.out.1⟩
  · have hok' : (inB 1 5 (x : Int) && inB 0 5 ((y : Int) - 1)) = false := by simpa using hok
    simp only [new_none hok'] at hin hsn
    have HIN := Lib.hid hin
    have HSN := Lib.hid hsn
    have HNIL := Lib.hid (fun w => sameLine_nil w)
    clear hin hsn hok hok' hx hy
    go_wp2_with fail
    refine (HIN.out _).mono ?_
    rintro e w2 ⟨rfl, hb2⟩
    have B2 := Lib.hid (below_to B1.out hb2 B1.out.size)
    clear hb2 B1
    go_wp2_with fail
    refine (HSN.out _).mono ?_
    rintro e w3 ⟨rfl, hb3⟩
    have Z3 : Hid (Below w.heap.size w (w3.alloc (.cells #[.slice none 0 0, .slice none 0 0] 32)) ∧ Blk (w3.alloc (.cells #[.slice none 0 0, .slice none 0 0] 32)) w2.heap.size 32 #[.slice none 0 0, .slice none 0 0] ∧ Blk (w3.alloc (.cells #[.slice none 0 0, .slice none 0 0] 32)) w3.heap.size 32 #[.slice none 0 0, .slice none 0 0]) :=
      Lib.hid ⟨below_new' (below_to (below_new' B2.out (.cells #[.slice none 0 0, .slice none 0 0] 32)) hb3 (below_new' B2.out _).size) _, ((Blk.new w2 32 #[.slice none 0 0, .slice none 0 0]).below hb3 (by simp)).alloc _, Blk.new _ _ _⟩
    clear hb3 B2
    go_upto_region 6 with fail
    generalize w3.alloc (.cells #[.slice none 0 0, .slice none 0 0] 32) = X3 at *
    obtain ⟨c0, c1, _, _⟩ := blkCells2 Z3.out.2.1
    obtain ⟨c2, c3, _, _⟩ := blkCells2 Z3.out.2.2
    go_wp2_with fail
    refine (HNIL.out _).mono ?_
    rintro e w4 ⟨rfl, hb4⟩
    have B4 := Lib.hid (below_to Z3.out.1 hb4 Z3.out.1.size)
    obtain ⟨d0, d1, _, _⟩ := blkCells2 (Z3.out.2.1.below hb4 Z3.out.2.1.lt)
    obtain ⟨e0, e1, _, _⟩ := blkCells2 (Z3.out.2.2.below hb4 Z3.out.2.2.lt)
    clear hb4 c0 c1 c2 c3
    go_wp2_with fail
    refine (HNIL.out _).mono ?_
    rintro e w5 ⟨rfl, hb5⟩
    have B5 := Lib.hid (below_to B4.out hb5 B4.out.size)
    clear hb5
    go_wp2_with fail
    go_ret
    exact ⟨rfl, B5.out⟩
end Go.Proofs.Ytmgakfbchhefcaa
