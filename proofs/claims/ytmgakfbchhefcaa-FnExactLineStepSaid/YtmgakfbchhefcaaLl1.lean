/-
  The laws FnExactLineValid, FnExactLineWaits, FnExactLineIn, walked call by call. No condition.
-/
import Derived.Test.YtmgakfbchhefcaaLn7
import Derived.Test.YtmgakfbchhefcaaOpn
namespace Go.Proofs.Ytmgakfbchhefcaa
open Go.RowKit
set_option linter.unusedVariables false

/-- The law's own line in memory; nothing that existed has changed. -/
def LwS (w W : World) (A : Option Addr) (c : Nat) (bs : List BV) (B : Option Addr) (d : Nat) (ts : List Int) : Prop :=
  Below w.heap.size w W ∧ Blk W w.heap.size 25 #[.slice A bs.length c, .slice B ts.length d] ∧ RdBl W A bs ∧ RdInts W B ts
section
variable {w W W' : World} {A B : Option Addr} {c d : Nat} {bs : List BV} {ts : List Int}
theorem LwS.step (h : LwS w W A c bs B d ts) (k : Below W.heap.size W W') : LwS w W' A c bs B d ts := ⟨below_to h.1 k h.1.size, h.2.1.below k h.2.1.lt, h.2.2.1.below k, h.2.2.2.below k⟩
theorem LwS.new (h : RdBl w A bs) (h' : RdInts w B ts) : LwS w (w.alloc (.cells #[.slice A bs.length c, .slice B ts.length d] 25)) A c bs B d ts :=
  ⟨below_new w _, Blk.new _ _ _, h.below (below_new w _), h'.below (below_new w _)⟩
theorem LwS.drew (h : LwS w W A c bs B d ts) : LwS w W.drew A c bs B d ts := ⟨h.1.drew, h.2.1, h.2.2.1, h.2.2.2⟩
theorem LwS.cell0 (h : LwS w W A c bs B d ts) : W.cell? ⟨w.heap.size, 0, none⟩ = some (.slice A bs.length c) := by
  have := h.2.1.cell 0
  simpa using this
theorem LwS.cell1 (h : LwS w W A c bs B d ts) : W.cell? ⟨w.heap.size, 1, none⟩ = some (.slice B ts.length d) := by
  have := h.2.1.cell 1
  simpa using this
end
/-- A line of the program's in memory. -/
def LnB (W : World) (g g' : Nat) (bs : List BV) (ts : List Int) : Prop := AtBl W g 0 bs ∧ AtInts W g' 0 ts ∧ g < W.heap.size ∧ g' < W.heap.size
theorem LnB.step {W W' : World} {g g' : Nat} {bs : List BV} {ts : List Int} (h : LnB W g g' bs ts) (k : Below W.heap.size W W') : LnB W' g g' bs ts :=
  ⟨h.1.below k h.2.2.1, h.2.1.below k h.2.2.2, Nat.lt_of_lt_of_le h.2.2.1 k.size, Nat.lt_of_lt_of_le h.2.2.2 k.size⟩
theorem LnB.of {W : World} {L g d g' d' : Nat} {bs : List BV} {ts : List Int} (h : LnAt W L g d g' d' bs ts) : LnB W g g' bs ts := ⟨h.2.1, h.2.2.1, h.2.2.2.1, h.2.2.2.2⟩
theorem LnAt.drew {W : World} {L g d g' d' : Nat} {bs : List BV} {ts : List Int} (h : LnAt W L g d g' d' bs ts) : LnAt W.drew L g d g' d' bs ts := h
theorem LnAt.of {W : World} {g d g' d' : Nat} {bs : List BV} {ts : List Int} (h : LnB W g g' bs ts) : LnAt (W.alloc (.cells #[.slice (some ⟨g, 0, none⟩) bs.length d, .slice (some ⟨g', 0, none⟩) ts.length d'] 32)) W.heap.size g d g' d' bs ts := LnAt.new h.2.2.1 h.2.2.2 h.1 h.2.1
theorem LnB.own {W : World} {base g d g' d' : Nat} {bs : List BV} {ts : List Int} (h : OwnB W base g d bs) (h' : Own W base g' d' ts) : LnB W g g' bs ts := ⟨h.at, h'.at, h.lt, h'.lt⟩

set_option maxHeartbeats 1600000 in
theorem law_ExactLineValid (A : Option Addr) (c : Nat) (bs : List BV) (B : Option Addr) (d : Nat) (ts : List Int) (w : World) (hq : ArgBl w A bs) (hq' : ArgInts w B ts) :
    Calls Try.prog 6 #[.agg #[.slice A bs.length c, .slice B ts.length d]] w fun e w' => e = .returned (.bool true) ∧ Below w.heap.size w w' := by
  obtain ⟨hr, hn⟩ := hq
  obtain ⟨hr', _, hm⟩ := hq'
  have hsz := fun w => szLine_any A B c d bs.length ts.length w hn hm
  have S1 := Lib.hid (LwS.new (c := c) (d := d) hr hr')
  unfold szL at hsz
  clear hr hr'
  by_cases hbig : bs.length + ts.length ≤ 1048576
  · rw [if_pos hbig] at hsz
    have HSZ := Lib.hid hsz
    have t0 := dec_f (show ¬ (1048576 : Int) - bs.length - ts.length < 0 by omega)
    have hto := fun (W : World) (h : LwS w W A c bs B d ts) => toLine_any A B c d bs ts W (by omega) (by omega) h.2.2.1 h.2.2.2
    have HTO := Lib.hid hto
    have hsp := fun (W : World) (g d g' d' : Nat) (h : LnB W g g' bs ts) => specValid_any g d g' d' bs ts W (by omega) (by omega) h.2.2.1 h.2.2.2 h.1 h.2.1
    have him := fun (W : World) (g d g' d' : Nat) (h : LnB W g g' bs ts) => implValid_any g d g' d' bs ts W (by omega) (by omega) h.2.2.1 h.2.2.2 h.1 h.2.1
    have heq := fun (W : World) (g d g' d' k e k' e' : Nat) (h : LnB W g g' bs ts) (j : LnB W k k' bs ts) => eqLine_same g d k e g' d' k' e' bs ts W (by omega) (by omega) h.2.2.1 j.2.2.1 h.2.2.2 j.2.2.2 h.1 j.1 h.2.1 j.2.1
    generalize lineB bs ts = V at *
    have HSP := Lib.hid hsp
    have HIM := Lib.hid him
    have HEQ := Lib.hid heq
    clear hsz hto hsp him heq
    go_enter Try.func6, Try.ntmps6
    go_wp2_with fail
    refine (HSZ.out _).mono ?_
    rintro e w2 ⟨rfl, hb2⟩
    have S2 := Lib.hid (S1.out.step hb2)
    have c0 := S2.out.cell0
    have c1 := S2.out.cell1
    clear hb2 S1
    go_wp2_with fail
    refine (HTO.out _ S2.out).mono ?_
    rintro e w3 ⟨g3, d3, g3', d3', rfl, ho3, ho3', hne3, hb3⟩
    have S3 := Lib.hid (S2.out.step hb3)
    have L3 := Lib.hid (LnB.own ho3 ho3')
    have c0 := S3.out.cell0
    have c1 := S3.out.cell1
    clear hb3 S2 ho3 ho3' hne3
    go_wp2_with fail
    refine (HSP.out _ _ _ _ _ L3.out).mono ?_
    rintro e w4 ⟨rfl, hb4⟩
    have S4 := Lib.hid (S3.out.step hb4)
    have c0 := S4.out.cell0
    have c1 := S4.out.cell1
    clear hb4 S3 L3
    go_wp2_with fail
    refine (HTO.out _ S4.out).mono ?_
    rintro e w5 ⟨g5, d5, g5', d5', rfl, ho5, ho5', hne5, hb5⟩
    have S5 := Lib.hid ((S4.out.step hb5).step (below_new w5 (.cells #[.slice (some ⟨g5, 0, none⟩) bs.length d5, .slice (some ⟨g5', 0, none⟩) ts.length d5'] 32)))
    have X5 := Lib.hid (LnAt.of (d := d5) (d' := d5') (LnB.own ho5 ho5'))
    clear hb5 S4 ho5 ho5' hne5
    go_wp2_with fail
    generalize w5.alloc (.cells #[.slice (some ⟨g5, 0, none⟩) bs.length d5, .slice (some ⟨g5', 0, none⟩) ts.length d5'] 32) = W5 at *
    refine (HIM.out _ _ _ _ _ (LnB.of X5.out)).mono ?_
    rintro e w6 ⟨rfl, hb6⟩
    have S6 := Lib.hid (S5.out.step hb6)
    have X6 := Lib.hid (X5.out.below hb6)
    have c0 := S6.out.cell0
    have c1 := S6.out.cell1
    have x0 := X6.out.cell0
    have x1 := X6.out.cell1
    clear hb6 S5 X5
    go_wp2_with fail
    go_region_held3 (fun w' => w'.cell? ⟨w5.heap.size, 0, none⟩ = some (.slice (some ⟨g5, 0, none⟩) bs.length d5) ∧ w'.cell? ⟨w5.heap.size, 1, none⟩ = some (.slice (some ⟨g5', 0, none⟩) ts.length d5') ∧ w'.cell? ⟨w.heap.size, 0, none⟩ = some (.slice A bs.length c) ∧ w'.cell? ⟨w.heap.size, 1, none⟩ = some (.slice B ts.length d)) (go_keep) (first | (go_at_call 17; go_must (go_fit (HTO.out _ S6.out.drew); rintro e w7 ⟨g7, d7, g7', d7', rfl, ho7, ho7', hne7, hb7⟩; have S7 := Lib.hid (S6.out.drew.step hb7); have X7 := Lib.hid (X6.out.drew.below hb7); have M7 := Lib.hid (LnB.own ho7 ho7'); have y0 := X7.out.cell0; have y1 := X7.out.cell1; have y2 := S7.out.cell0; have y3 := S7.out.cell1; clear hb7 ho7 ho7' hne7)) | (go_at_call 20; go_must (go_fit (HEQ.out _ _ _ _ _ _ _ _ _ (LnB.of X7.out) M7.out); rintro e w8 ⟨rfl, hb8⟩; have S8 := Lib.hid (S7.out.step hb8); have X8 := Lib.hid (X7.out.below hb8); have z0 := X8.out.cell0; have z1 := X8.out.cell1; have z2 := S8.out.cell0; have z3 := S8.out.cell1; clear hb8)))
    go_wp2_with fail
    go_ret
    exact ⟨rfl, S8.out.1⟩
  · rw [if_neg hbig] at hsz
    have HSZ := Lib.hid hsz
    clear hsz
    go_enter Try.func6, Try.ntmps6
    go_wp2_with fail
    refine (HSZ.out _).mono ?_
    rintro e w2 ⟨rfl, hb2⟩
    have S2 := Lib.hid (S1.out.step hb2)
    clear hb2
    go_wp2_with fail
    go_ret
    exact ⟨rfl, S2.out.1⟩
set_option maxHeartbeats 1600000 in
theorem law_ExactLineWaits (A : Option Addr) (c : Nat) (bs : List BV) (B : Option Addr) (d : Nat) (ts : List Int) (k : Int) (w : World) (hq : ArgBl w A bs) (hq' : ArgInts w B ts) (hk : -9223372036854775808 ≤ k ∧ k ≤ 9223372036854775807) :
    Calls Try.prog 7 #[.agg #[.slice A bs.length c, .slice B ts.length d], .int .i64 k] w fun e w' => e = .returned (.bool true) ∧ Below w.heap.size w w' := by
  obtain ⟨hr, hn⟩ := hq
  obtain ⟨hr', _, hm⟩ := hq'
  have hsz := fun w => szLine_any A B c d bs.length ts.length w hn hm
  have S1 := Lib.hid (LwS.new (c := c) (d := d) hr hr')
  unfold szL at hsz
  clear hr hr'
  by_cases hbig : bs.length + ts.length ≤ 1048576
  · rw [if_pos hbig] at hsz
    have HSZ := Lib.hid hsz
    have t0 := dec_f (show ¬ (1048576 : Int) - bs.length - ts.length < 0 by omega)
    have hto := fun (W : World) (h : LwS w W A c bs B d ts) => toLine_any A B c d bs ts W (by omega) (by omega) h.2.2.1 h.2.2.2
    have HTO := Lib.hid hto
    have hsp := fun (W : World) (g d g' d' : Nat) (h : LnB W g g' bs ts) => specWaits_any g d g' d' bs ts k W (by omega) (by omega) h.2.2.1 h.2.2.2 h.1 h.2.1
    have him := fun (W : World) (g d g' d' : Nat) (h : LnB W g g' bs ts) => implWaits_any g d g' d' bs ts k W (by omega) (by omega) h.2.2.1 h.2.2.2 h.1 h.2.1
    have heq := fun (W : World) (g d g' d' k e k' e' : Nat) (h : LnB W g g' bs ts) (j : LnB W k k' bs ts) => eqLine_same g d k e g' d' k' e' bs ts W (by omega) (by omega) h.2.2.1 j.2.2.1 h.2.2.2 j.2.2.2 h.1 j.1 h.2.1 j.2.1
    generalize waitV bs ts k = V at *
    have t1 := bne_f (show V = V from rfl)
    have HSP := Lib.hid hsp
    have HIM := Lib.hid him
    have HEQ := Lib.hid heq
    clear hsz hto hsp him heq
    go_enter Try.func7, Try.ntmps7
    go_wp2_with fail
    refine (HSZ.out _).mono ?_
    rintro e w2 ⟨rfl, hb2⟩
    have S2 := Lib.hid (S1.out.step hb2)
    have c0 := S2.out.cell0
    have c1 := S2.out.cell1
    clear hb2 S1
    go_wp2_with fail
    refine (HTO.out _ S2.out).mono ?_
    rintro e w3 ⟨g3, d3, g3', d3', rfl, ho3, ho3', hne3, hb3⟩
    have S3 := Lib.hid (S2.out.step hb3)
    have L3 := Lib.hid (LnB.own ho3 ho3')
    have c0 := S3.out.cell0
    have c1 := S3.out.cell1
    clear hb3 S2 ho3 ho3' hne3
    go_wp2_with fail
    refine (HSP.out _ _ _ _ _ L3.out).mono ?_
    rintro e w4 ⟨rfl, hb4⟩
    have S4 := Lib.hid (S3.out.step hb4)
    have c0 := S4.out.cell0
    have c1 := S4.out.cell1
    clear hb4 S3 L3
    go_wp2_with fail
    refine (HTO.out _ S4.out).mono ?_
    rintro e w5 ⟨g5, d5, g5', d5', rfl, ho5, ho5', hne5, hb5⟩
    have S5 := Lib.hid ((S4.out.step hb5).step (below_new w5 (.cells #[.slice (some ⟨g5, 0, none⟩) bs.length d5, .slice (some ⟨g5', 0, none⟩) ts.length d5'] 32)))
    have X5 := Lib.hid (LnAt.of (d := d5) (d' := d5') (LnB.own ho5 ho5'))
    clear hb5 S4 ho5 ho5' hne5
    go_wp2_with fail
    generalize w5.alloc (.cells #[.slice (some ⟨g5, 0, none⟩) bs.length d5, .slice (some ⟨g5', 0, none⟩) ts.length d5'] 32) = W5 at *
    refine (HIM.out _ _ _ _ _ (LnB.of X5.out)).mono ?_
    rintro e w6 ⟨rfl, hb6⟩
    have S6 := Lib.hid (S5.out.step hb6)
    have X6 := Lib.hid (X5.out.below hb6)
    have c0 := S6.out.cell0
    have c1 := S6.out.cell1
    have x0 := X6.out.cell0
    have x1 := X6.out.cell1
    clear hb6 S5 X5
    go_wp2_with fail
    go_region_held3 (fun w' => w'.cell? ⟨w5.heap.size, 0, none⟩ = some (.slice (some ⟨g5, 0, none⟩) bs.length d5) ∧ w'.cell? ⟨w5.heap.size, 1, none⟩ = some (.slice (some ⟨g5', 0, none⟩) ts.length d5') ∧ w'.cell? ⟨w.heap.size, 0, none⟩ = some (.slice A bs.length c) ∧ w'.cell? ⟨w.heap.size, 1, none⟩ = some (.slice B ts.length d)) (go_keep) (first | (go_at_call 17; go_must (go_fit (HTO.out _ S6.out.drew); rintro e w7 ⟨g7, d7, g7', d7', rfl, ho7, ho7', hne7, hb7⟩; have S7 := Lib.hid (S6.out.drew.step hb7); have X7 := Lib.hid (X6.out.drew.below hb7); have M7 := Lib.hid (LnB.own ho7 ho7'); have y0 := X7.out.cell0; have y1 := X7.out.cell1; have y2 := S7.out.cell0; have y3 := S7.out.cell1; clear hb7 ho7 ho7' hne7)) | (go_at_call 20; go_must (go_fit (HEQ.out _ _ _ _ _ _ _ _ _ (LnB.of X7.out) M7.out); rintro e w8 ⟨rfl, hb8⟩; have S8 := Lib.hid (S7.out.step hb8); have X8 := Lib.hid (X7.out.below hb8); have z0 := X8.out.cell0; have z1 := X8.out.cell1; have z2 := S8.out.cell0; have z3 := S8.out.cell1; clear hb8)))
    go_wp2_with fail
    go_ret
    exact ⟨rfl, S8.out.1⟩
  · rw [if_neg hbig] at hsz
    have HSZ := Lib.hid hsz
    clear hsz
    go_enter Try.func7, Try.ntmps7
    go_wp2_with fail
    refine (HSZ.out _).mono ?_
    rintro e w2 ⟨rfl, hb2⟩
    have S2 := Lib.hid (S1.out.step hb2)
    clear hb2
    go_wp2_with fail
    go_ret
    exact ⟨rfl, S2.out.1⟩
set_option maxHeartbeats 1600000 in
theorem law_ExactLineIn (A : Option Addr) (c : Nat) (bs : List BV) (B : Option Addr) (d : Nat) (ts : List Int) (k : Int) (w : World) (hq : ArgBl w A bs) (hq' : ArgInts w B ts) (hk : -9223372036854775808 ≤ k ∧ k ≤ 9223372036854775807) :
    Calls Try.prog 9 #[.agg #[.slice A bs.length c, .slice B ts.length d], .int .i64 k] w fun e w' => e = .returned (.bool true) ∧ Below w.heap.size w w' := by
  obtain ⟨hr, hn⟩ := hq
  obtain ⟨hr', _, hm⟩ := hq'
  have hsz := fun w => szLine_any A B c d bs.length ts.length w hn hm
  have S1 := Lib.hid (LwS.new (c := c) (d := d) hr hr')
  unfold szL at hsz
  clear hr hr'
  by_cases hbig : bs.length + ts.length ≤ 1048576
  · rw [if_pos hbig] at hsz
    have HSZ := Lib.hid hsz
    have t0 := dec_f (show ¬ (1048576 : Int) - bs.length - ts.length < 0 by omega)
    have hto := fun (W : World) (h : LwS w W A c bs B d ts) => toLine_any A B c d bs ts W (by omega) (by omega) h.2.2.1 h.2.2.2
    have HTO := Lib.hid hto
    have hsp := fun (W : World) (g d g' d' : Nat) (h : LnB W g g' bs ts) => specIn_any g d g' d' bs ts k W (by omega) (by omega) h.2.2.1 h.2.2.2 h.1 h.2.1
    have him := fun (W : World) (g d g' d' : Nat) (h : LnB W g g' bs ts) => implIn_any g d g' d' bs ts k W (by omega) (by omega) h.2.2.1 h.2.2.2 h.1 h.2.1
    have heq := fun (W : World) (g d g' d' k e k' e' : Nat) (h : LnB W g g' bs ts) (j : LnB W k k' bs ts) => eqLine_same g d k e g' d' k' e' bs ts W (by omega) (by omega) h.2.2.1 j.2.2.1 h.2.2.2 j.2.2.2 h.1 j.1 h.2.1 j.2.1
    generalize inV bs ts k = V at *
    obtain ⟨V, V'⟩ := V
    simp only at hsp him
    have t1 := bne_f (show V = V from rfl)
    have HSP := Lib.hid hsp
    have HIM := Lib.hid him
    have HEQ := Lib.hid heq
    clear hsz hto hsp him heq
    go_enter Try.func9, Try.ntmps9
    go_wp2_with fail
    refine (HSZ.out _).mono ?_
    rintro e w2 ⟨rfl, hb2⟩
    have S2 := Lib.hid (S1.out.step hb2)
    have c0 := S2.out.cell0
    have c1 := S2.out.cell1
    clear hb2 S1
    go_wp2_with fail
    refine (HTO.out _ S2.out).mono ?_
    rintro e w3 ⟨g3, d3, g3', d3', rfl, ho3, ho3', hne3, hb3⟩
    have S3 := Lib.hid (S2.out.step hb3)
    have L3 := Lib.hid (LnB.own ho3 ho3')
    have c0 := S3.out.cell0
    have c1 := S3.out.cell1
    clear hb3 S2 ho3 ho3' hne3
    go_wp2_with fail
    refine (HSP.out _ _ _ _ _ L3.out).mono ?_
    rintro e w4 ⟨rfl, hb4⟩
    have S4 := Lib.hid (S3.out.step hb4)
    have c0 := S4.out.cell0
    have c1 := S4.out.cell1
    clear hb4 S3 L3
    go_wp2_with fail
    refine (HTO.out _ S4.out).mono ?_
    rintro e w5 ⟨g5, d5, g5', d5', rfl, ho5, ho5', hne5, hb5⟩
    have S5 := Lib.hid ((S4.out.step hb5).step (below_new w5 (.cells #[.slice (some ⟨g5, 0, none⟩) bs.length d5, .slice (some ⟨g5', 0, none⟩) ts.length d5'] 32)))
    have X5 := Lib.hid (LnAt.of (d := d5) (d' := d5') (LnB.own ho5 ho5'))
    clear hb5 S4 ho5 ho5' hne5
    go_wp2_with fail
    generalize w5.alloc (.cells #[.slice (some ⟨g5, 0, none⟩) bs.length d5, .slice (some ⟨g5', 0, none⟩) ts.length d5'] 32) = W5 at *
    refine (HIM.out _ _ _ _ _ (LnB.of X5.out)).mono ?_
    rintro e w6 ⟨rfl, hb6⟩
    have S6 := Lib.hid (S5.out.step hb6)
    have X6 := Lib.hid (X5.out.below hb6)
    have c0 := S6.out.cell0
    have c1 := S6.out.cell1
    have x0 := X6.out.cell0
    have x1 := X6.out.cell1
    clear hb6 S5 X5
    go_wp2_with fail
    go_region_held3 (fun w' => w'.cell? ⟨w5.heap.size, 0, none⟩ = some (.slice (some ⟨g5, 0, none⟩) bs.length d5) ∧ w'.cell? ⟨w5.heap.size, 1, none⟩ = some (.slice (some ⟨g5', 0, none⟩) ts.length d5') ∧ w'.cell? ⟨w.heap.size, 0, none⟩ = some (.slice A bs.length c) ∧ w'.cell? ⟨w.heap.size, 1, none⟩ = some (.slice B ts.length d)) (go_keep) (first | (go_at_call 17; go_must (go_fit (HTO.out _ S6.out.drew); rintro e w7 ⟨g7, d7, g7', d7', rfl, ho7, ho7', hne7, hb7⟩; have S7 := Lib.hid (S6.out.drew.step hb7); have X7 := Lib.hid (X6.out.drew.below hb7); have M7 := Lib.hid (LnB.own ho7 ho7'); have y0 := X7.out.cell0; have y1 := X7.out.cell1; have y2 := S7.out.cell0; have y3 := S7.out.cell1; clear hb7 ho7 ho7' hne7)) | (go_at_call 20; go_must (go_fit (HEQ.out _ _ _ _ _ _ _ _ _ (LnB.of X7.out) M7.out); rintro e w8 ⟨rfl, hb8⟩; have S8 := Lib.hid (S7.out.step hb8); have X8 := Lib.hid (X7.out.below hb8); have z0 := X8.out.cell0; have z1 := X8.out.cell1; have z2 := S8.out.cell0; have z3 := S8.out.cell1; clear hb8)))
    go_wp2_with fail
    go_ret
    exact ⟨rfl, S8.out.1⟩
  · rw [if_neg hbig] at hsz
    have HSZ := Lib.hid hsz
    clear hsz
    go_enter Try.func9, Try.ntmps9
    go_wp2_with fail
    refine (HSZ.out _).mono ?_
    rintro e w2 ⟨rfl, hb2⟩
    have S2 := Lib.hid (S1.out.step hb2)
    clear hb2
    go_wp2_with fail
    go_ret
    exact ⟨rfl, S2.out.1⟩
end Go.Proofs.Ytmgakfbchhefcaa
