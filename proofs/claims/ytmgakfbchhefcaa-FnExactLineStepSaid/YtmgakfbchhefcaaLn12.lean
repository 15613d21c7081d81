/-
  Lines: a move of a railway. No condition.
-/
import Derived.Test.YtmgakfbchhefcaaLn11
import Derived.Deep.DeepCutAuto
namespace Go.Proofs.Ytmgakfbchhefcaa
open Go.RowKit
set_option linter.unusedVariables false
set_option linter.unusedSimpArgs false

theorem str_e {s : ByteArray} : (s.toList == (⟨#[101]⟩ : ByteArray).toList) = decide (s = ⟨#[101]⟩) := by
  rw [Bool.eq_iff_iff, beq_iff_eq, decide_eq_true_eq]
  exact ⟨fun h => by rw [ByteArray.toList_eq, ByteArray.toList_eq] at h; obtain ⟨⟨l⟩⟩ := s; simp at h; rw [h], fun h => by rw [h]⟩
theorem str_l {s : ByteArray} : (s.toList == (⟨#[108]⟩ : ByteArray).toList) = decide (s = ⟨#[108]⟩) := by
  rw [Bool.eq_iff_iff, beq_iff_eq, decide_eq_true_eq]
  exact ⟨fun h => by rw [ByteArray.toList_eq, ByteArray.toList_eq] at h; obtain ⟨⟨l⟩⟩ := s; simp at h; rw [h], fun h => by rw [h]⟩
theorem lit_e : (⟨#[101]⟩ : ByteArray).toList = [101] := by rw [ByteArray.toList_eq]
theorem lit_l : (⟨#[108]⟩ : ByteArray).toList = [108] := by rw [ByteArray.toList_eq]
/-- A railway and the move's box. -/
def RwM (w0 W : World) (base R g d g' d' M : Nat) (bs : List BV) (ts : List Int) (m : Int) (s : ByteArray) : Prop :=
  Below base w0 W ∧ RwO W base R g d g' d' bs ts ∧ Blk W M 36 #[.int .i64 m, .string s]
section
variable {w0 W W' : World} {base R g d g' d' M : Nat} {bs : List BV} {ts : List Int} {m : Int} {s : ByteArray}
theorem RwO.bsle (h : RwO W base R g d g' d' bs ts) : base ≤ W.heap.size := Nat.le_trans h.2.2.2.1 (Nat.le_of_lt h.1.lt)
theorem RwM.step (h : RwM w0 W base R g d g' d' M bs ts m s) (k : Below W.heap.size W W') : RwM w0 W' base R g d g' d' M bs ts m s := ⟨h.1.trans (k.mono h.2.1.bsle), h.2.1.below k, h.2.2.below k h.2.2.lt⟩
theorem RwM.drew (h : RwM w0 W base R g d g' d' M bs ts m s) : RwM w0 W.drew base R g d g' d' M bs ts m s := ⟨h.1.drew, h.2.1, h.2.2⟩
theorem RwM.drewN (h : RwM w0 W base R g d g' d' M bs ts m s) (n : Nat) : RwM w0 (W.drewN n) base R g d g' d' M bs ts m s := ⟨below_drewN h.1 n, h.2.1, h.2.2⟩
theorem RwM.box0 (h : RwM w0 W base R g d g' d' M bs ts m s) : W.cell? ⟨M, 0, none⟩ = some (.int .i64 m) := by
  have := h.2.2.cell 0
  simpa using this
theorem RwM.box1 (h : RwM w0 W base R g d g' d' M bs ts m s) : W.cell? ⟨M, 1, none⟩ = some (.string s) := by
  have := h.2.2.cell 1
  simpa using this
theorem RwM.new (h : RwO w0 base R g d g' d' bs ts) : RwM w0 (w0.alloc (.cells #[.int .i64 m, .string s] 36)) base R g d g' d' w0.heap.size bs ts m s :=
  ⟨(below_new w0 _).mono h.bsle, h.below (below_new w0 _), Blk.new _ _ _⟩
/-- A store into the railway's trains. -/
theorem RwO.train (h : RwO W base R g d g' d' bs ts) (i : Nat) (v : Int) : RwO (W.setCell ⟨g', i, none⟩ (.int .i64 v)) base R g d g' d' bs (ts.set i v) := by
  obtain ⟨h1, h2, h3, h4, h5, h6, h7⟩ := h
  refine ⟨?_, OwnV.far h2 h7 _, h3.store i v, h4, h5, h6, h7⟩
  rw [List.length_set]
  exact h1.far (by simpa using h6) _
/-- A store into the railway's blocks. -/
theorem RwO.blk (h : RwO W base R g d g' d' bs ts) (k : Nat) (hk : k < bs.length) (x : BV) : RwO (((W.setCell ⟨g, k * 3, none⟩ (.int .i64 x.1)).setCell ⟨g, k * 3 + 1, none⟩ (.bool x.2.1)).setCell ⟨g, k * 3 + 2, none⟩ (.bool x.2.2)) base R g d g' d' (bs.set k x) ts := by
  obtain ⟨h1, h2, h3, h4, h5, h6, h7⟩ := h
  refine ⟨?_, h2.store k hk x, OwnV.far (OwnV.far (OwnV.far h3 (fun e => h7 e.symm) _) (fun e => h7 e.symm) _) (fun e => h7 e.symm) _, h4, h5, h6, h7⟩
  rw [List.length_set]
  exact ((h1.far (by simpa using h5) _).far (by simpa using h5) _).far (by simpa using h5) _
end
theorem blk_set3 {W : World} {P : Nat} {T : TypeId} {a b c : Value} (h : Blk W P T #[a, b, c]) (x y z : Value) : Blk (((W.setCell ⟨P, 0, none⟩ x).setCell ⟨P, 1, none⟩ y).setCell ⟨P, 2, none⟩ z) P T #[x, y, z] := by
  have := ((h.set_ 0 x).set_ 1 y).set_ 2 z
  simpa using this
theorem RwM.far1 {w0 W : World} {base R g d g' d' M P j : Nat} {bs : List BV} {ts : List Int} {m : Int} {s : ByteArray} (h : RwM w0 W base R g d g' d' M bs ts m s) (h1 : M < P) (h2 : R < P) (h3 : g < P) (h4 : g' < P) (v : Value) : RwM w0 (W.setCell ⟨P, j, none⟩ v) base R g d g' d' M bs ts m s := by
  obtain ⟨k1, ⟨a1, a2, a3, a4, a5⟩, k3⟩ := h
  refine ⟨k1.setCell (by show base ≤ P; omega) _, ⟨a1.far (by show R ≠ P; omega) _, OwnV.far a2 (by show g ≠ P; omega) _, OwnV.far a3 (by show g' ≠ P; omega) _, a4, a5⟩, k3.far (by show M ≠ P; omega) _⟩
theorem RwM.far3 {w0 W W2 : World} {base R g d g' d' M : Nat} {bs : List BV} {ts : List Int} {m : Int} {s : ByteArray} (h : RwM w0 W base R g d g' d' M bs ts m s) (h1 : M < W2.heap.size) (h2 : RwO W2 base R g d g' d' bs ts) (x y z : Value) : RwM w0 (((W.setCell ⟨W2.heap.size, 0, none⟩ x).setCell ⟨W2.heap.size, 1, none⟩ y).setCell ⟨W2.heap.size, 2, none⟩ z) base R g d g' d' M bs ts m s :=
  ((h.far1 h1 h2.1.lt h2.2.1.lt h2.2.2.1.lt _).far1 h1 h2.1.lt h2.2.1.lt h2.2.2.1.lt _).far1 h1 h2.1.lt h2.2.1.lt h2.2.2.1.lt _
/-- What a move leaves. -/
def MoveV (w0 : World) (base R g d g' d' : Nat) (bs : List BV) (ts : List Int) (b : Bool) (e : Ending) (w' : World) : Prop := e = .returned (.bool b) ∧ Below base w0 w' ∧ RwO w' base R g d g' d' bs ts
set_option maxHeartbeats 800000 in
theorem move_range (base R g d g' d' : Nat) (bs : List BV) (ts : List Int) (m : Int) (s : ByteArray) (w : World) (hn : bs.length ≤ 5) (hr : RwO w base R g d g' d' bs ts) (hm : m < 0 ∨ (bs.length : Int) ≤ m) :
    Calls Try.prog 52 #[.pointer (some ⟨R, 0, none⟩), .agg #[.int .i64 m, .string s]] w (MoveV w base R g d g' d' bs ts false) := by
  have BB := Lib.hid hr.bsle
  have M1 := Lib.hid (RwM.new (m := m) (s := s) hr)
  clear hr
  by_cases h0 : m < 0
  · have t1 := dec_t h0
    clear hm
    go_enter Try.func52, Try.ntmps52
    go_wp2_with fail
    generalize w.alloc (.cells #[.int .i64 m, .string s] 36) = W1 at *
    have x0 := M1.out.box0
    go_quiet (fail)
    go_wp2_with fail
    go_ret
    exact ⟨rfl, below_drewN M1.out.1 _, M1.out.2.1⟩
  · have t1 := dec_f h0
    have t2 := dec_t (show (bs.length : Int) ≤ m by omega)
    clear hm
    go_enter Try.func52, Try.ntmps52
    go_wp2_with fail
    generalize w.alloc (.cells #[.int .i64 m, .string s] 36) = W1 at *
    have x0 := M1.out.box0
    have r0 := M1.out.2.1.cell0
    go_quiet (fail)
    go_wp2_with fail
    go_ret
    exact ⟨rfl, below_drewN M1.out.1 _, M1.out.2.1⟩
set_option maxHeartbeats 3200000 in
theorem move_no5 (base R g d g' d' k : Nat) (bs : List BV) (ts : List Int) (s : ByteArray) (w : World) (hn : bs.length ≤ 5) (hm : ts.length ≤ 5) (hk : k < bs.length) (hs : s.size ≤ 9223372036854775807) (hr : RwO w base R g d g' d' bs ts) (hj : bstep (bs.getD k Z3) s = 5) :
    Calls Try.prog 52 #[.pointer (some ⟨R, 0, none⟩), .agg #[.int .i64 (k : Int), .string s]] w (MoveV w base R g d g' d' bs ts false) := by
  have BB := Lib.hid hr.bsle
  have M1 := Lib.hid (RwM.new (m := (k : Int)) (s := s) hr)
  have HGL := Lib.hid hr.2.2.1.lt
  have i1 : (k : Int) < (bs.length : Int) := by omega
  have t1 := dec_f (show ¬ (k : Int) < 0 by omega)
  have t2 := dec_f (show ¬ (bs.length : Int) ≤ (k : Int) by omega)
  have t2n := dec_f (show ¬ bs.length ≤ k by omega)
  have KK := Lib.hid hk
  obtain ⟨⟨n, i, o⟩, hx⟩ : ∃ x, bs.getD k Z3 = x := ⟨_, rfl⟩
  rw [hx] at hj
  have hbs := fun w => implBstep_any n i o s w hs
  unfold BstV at hbs
  rw [bst_f hj, hj] at hbs
  simp only [bv, Z3, show decide (5 < 5) = false from rfl] at hbs
  have HX := Lib.hid hx
  have HBS := Lib.hid hbs
  have HCL : Hid (∀ W, RwM w W base R g d g' d' w.heap.size bs ts (k : Int) s → W.cell? ⟨g, k * 3, none⟩ = some (.int .i64 n) ∧ W.cell? ⟨g, k * 3 + 1, none⟩ = some (.bool i) ∧ W.cell? ⟨g, k * 3 + 2, none⟩ = some (.bool o)) := Lib.hid fun W h => by
    have := h.2.1.2.1.at.at0 KK.out
    rw [HX.out] at this
    exact this
  clear hx hbs hr hj hk t2n
  go_enter Try.func52, Try.ntmps52
  go_wp2_with fail
  generalize w.alloc (.cells #[.int .i64 (k : Int), .string s] 36) = W1 at *
  have x0 := M1.out.box0
  have r0 := M1.out.2.1.cell0
  go_quiet (fail)
  clear x0 r0
  have M2 := Lib.hid (M1.out.drewN nq)
  generalize W1.drewN nq = W2 at *
  have x0 := M2.out.box0
  have x1 := M2.out.box1
  have r0 := M2.out.2.1.cell0
  obtain ⟨p0, p1, p2⟩ := HCL.out _ M2.out
  have n0 := World.new_ne W2 _ r0
  have n1 := World.new_ne W2 _ x0
  have n2 := World.new_ne W2 _ x1
  have n3 := World.new_ne W2 _ p0
  have n4 := World.new_ne W2 _ p1
  have n5 := World.new_ne W2 _ p2
  go_upto_region 3 with fail
  go_cut [5, 6] (fun a5 a6 wx => ∃ P : Nat, a5 = .pointer (some ⟨P, 0, none⟩) ∧ a6 = .bool false ∧ RwM w wx base R g d g' d' w.heap.size bs ts (k : Int) s ∧ Blk wx P 48 #[.int .i64 0, .bool false, .bool false] ∧ w.heap.size < P)
  case first =>
    go_region_held3 (fun w' => w'.cell? ⟨R, 0, none⟩ = some (.slice (some ⟨g, 0, none⟩) bs.length d) ∧ w'.cell? ⟨w.heap.size, 0, none⟩ = some (.int .i64 (k : Int)) ∧ w'.cell? ⟨w.heap.size, 1, none⟩ = some (.string s) ∧ w'.cell? ⟨g, k * 3, none⟩ = some (.int .i64 n) ∧ w'.cell? ⟨g, k * 3 + 1, none⟩ = some (.bool i) ∧ w'.cell? ⟨g, k * 3 + 2, none⟩ = some (.bool o)) (go_keep) (first | (go_at_call 45; go_must (go_fit (HBS.out _); rintro e w3 ⟨rfl, hb3⟩; (first | (have M3 := Lib.hid (M2.out.drew.step hb3); have y0 := M3.out.box0; have y1 := M3.out.box1; have y2 := M3.out.2.1.cell0; have y3 := (HCL.out _ M3.out).1; have y4 := (HCL.out _ M3.out).2.1; have y5 := (HCL.out _ M3.out).2.2; clear hb3) | (have M3 := Lib.hid ((M2.out.step (below_new W2 _)).drew.step hb3); have KB := Lib.hid ((Blk.new W2 _ _).drew.below hb3 (by simp)); obtain ⟨e0, e1, e2, e3, e4, e5⟩ := blkCells KB.out; have y0 := M3.out.box0; have y1 := M3.out.box1; have y2 := M3.out.2.1.cell0; have y3 := (HCL.out _ M3.out).1; have y4 := (HCL.out _ M3.out).2.1; have y5 := (HCL.out _ M3.out).2.2; clear hb3)))))
    all_goals
      go_wp2_with fail
      go_meet
      first
        | exact ⟨w3.heap.size, rfl, rfl, M3.out.step (below_new w3 _), Blk.new _ _ _, M3.out.2.2.lt⟩
        | exact ⟨W2.heap.size, rfl, rfl, M3.out.far3 M2.out.2.2.lt M2.out.2.1 _ _ _, blk_set3 KB.out _ _ _, M2.out.2.2.lt⟩
  obtain ⟨P, rfl, rfl, hM4, hK4, hP⟩ := hcut
  have M4 := Lib.hid hM4
  have K4 := Lib.hid hK4
  have HPL := Lib.hid hP
  clear hM4 hK4 hP x0 x1 r0 p0 p1 p2 n0 n1 n2 n3 n4 n5
  go_wp2_with fail
  go_ret
  exact ⟨rfl, M4.out.1, M4.out.2.1⟩

set_option maxHeartbeats 3200000 in
theorem move_plain (base R g d g' d' k : Nat) (bs : List BV) (ts : List Int) (s : ByteArray) (w : World) (hn : bs.length ≤ 5) (hm : ts.length ≤ 5) (hk : k < bs.length) (hs : s.size ≤ 9223372036854775807) (hr : RwO w base R g d g' d' bs ts) (j : Nat) (hj3 : j < 3) (hj : bstep (bs.getD k Z3) s = j) (he : s ≠ ⟨#[101]⟩) (hl : s ≠ ⟨#[108]⟩) :
    Calls Try.prog 52 #[.pointer (some ⟨R, 0, none⟩), .agg #[.int .i64 (k : Int), .string s]] w (MoveV w base R g d g' d' (bs.set k (st j)) ts true) := by
  have BB := Lib.hid hr.bsle
  have M1 := Lib.hid (RwM.new (m := (k : Int)) (s := s) hr)
  have HGL := Lib.hid hr.2.2.1.lt
  have i1 : (k : Int) < (bs.length : Int) := by omega
  have t1 := dec_f (show ¬ (k : Int) < 0 by omega)
  have t2 := dec_f (show ¬ (bs.length : Int) ≤ (k : Int) by omega)
  have t2n := dec_f (show ¬ bs.length ≤ k by omega)
  have KK := Lib.hid hk
  obtain ⟨⟨n, i, o⟩, hx⟩ : ∃ x, bs.getD k Z3 = x := ⟨_, rfl⟩
  rw [hx] at hj
  have hbs := fun w => implBstep_any n i o s w hs
  unfold BstV at hbs
  rw [bst_t hj (by omega), hj, dec_t (show j < 5 by omega)] at hbs
  obtain ⟨X, hX⟩ : ∃ X, st j = X := ⟨_, rfl⟩
  rw [hX] at hbs
  obtain ⟨Xn, Xi, Xo⟩ := X
  simp only [bv] at hbs
  have HST := Lib.hid hX
  clear hX
  have te := (str_e (s := s)).trans (dec_f he)
  have tl := (str_l (s := s)).trans (dec_f hl)
  have te' := te
  have tl' := tl
  rw [lit_e] at te'
  rw [lit_l] at tl'
  clear he hl
  have HX := Lib.hid hx
  have HBS := Lib.hid hbs
  have HCL : Hid (∀ W, RwM w W base R g d g' d' w.heap.size bs ts (k : Int) s → W.cell? ⟨g, k * 3, none⟩ = some (.int .i64 n) ∧ W.cell? ⟨g, k * 3 + 1, none⟩ = some (.bool i) ∧ W.cell? ⟨g, k * 3 + 2, none⟩ = some (.bool o)) := Lib.hid fun W h => by
    have := h.2.1.2.1.at.at0 KK.out
    rw [HX.out] at this
    exact this
  clear hx hbs hr hj hk t2n
  go_enter Try.func52, Try.ntmps52
  go_wp2_with fail
  generalize w.alloc (.cells #[.int .i64 (k : Int), .string s] 36) = W1 at *
  have x0 := M1.out.box0
  have r0 := M1.out.2.1.cell0
  go_quiet (fail)
  clear x0 r0
  have M2 := Lib.hid (M1.out.drewN nq)
  generalize W1.drewN nq = W2 at *
  have x0 := M2.out.box0
  have x1 := M2.out.box1
  have r0 := M2.out.2.1.cell0
  obtain ⟨p0, p1, p2⟩ := HCL.out _ M2.out
  have n0 := World.new_ne W2 _ r0
  have n1 := World.new_ne W2 _ x0
  have n2 := World.new_ne W2 _ x1
  have n3 := World.new_ne W2 _ p0
  have n4 := World.new_ne W2 _ p1
  have n5 := World.new_ne W2 _ p2
  go_upto_region 3 with fail
  go_cut [5, 6] (fun a5 a6 wx => ∃ P : Nat, a5 = .pointer (some ⟨P, 0, none⟩) ∧ a6 = .bool true ∧ RwM w wx base R g d g' d' w.heap.size bs ts (k : Int) s ∧ Blk wx P 48 #[.int .i64 Xn, .bool Xi, .bool Xo] ∧ w.heap.size < P)
  case first =>
    go_region_held3 (fun w' => w'.cell? ⟨R, 0, none⟩ = some (.slice (some ⟨g, 0, none⟩) bs.length d) ∧ w'.cell? ⟨w.heap.size, 0, none⟩ = some (.int .i64 (k : Int)) ∧ w'.cell? ⟨w.heap.size, 1, none⟩ = some (.string s) ∧ w'.cell? ⟨g, k * 3, none⟩ = some (.int .i64 n) ∧ w'.cell? ⟨g, k * 3 + 1, none⟩ = some (.bool i) ∧ w'.cell? ⟨g, k * 3 + 2, none⟩ = some (.bool o)) (go_keep) (first | (go_at_call 45; go_must (go_fit (HBS.out _); rintro e w3 ⟨rfl, hb3⟩; (first | (have M3 := Lib.hid (M2.out.drew.step hb3); have y0 := M3.out.box0; have y1 := M3.out.box1; have y2 := M3.out.2.1.cell0; have y3 := (HCL.out _ M3.out).1; have y4 := (HCL.out _ M3.out).2.1; have y5 := (HCL.out _ M3.out).2.2; clear hb3) | (have M3 := Lib.hid ((M2.out.step (below_new W2 _)).drew.step hb3); have KB := Lib.hid ((Blk.new W2 _ _).drew.below hb3 (by simp)); obtain ⟨e0, e1, e2, e3, e4, e5⟩ := blkCells KB.out; have y0 := M3.out.box0; have y1 := M3.out.box1; have y2 := M3.out.2.1.cell0; have y3 := (HCL.out _ M3.out).1; have y4 := (HCL.out _ M3.out).2.1; have y5 := (HCL.out _ M3.out).2.2; clear hb3)))))
    all_goals
      go_wp2_with fail
      go_meet
      first
        | exact ⟨w3.heap.size, rfl, rfl, M3.out.step (below_new w3 _), Blk.new _ _ _, M3.out.2.2.lt⟩
        | exact ⟨W2.heap.size, rfl, rfl, M3.out.far3 M2.out.2.2.lt M2.out.2.1 _ _ _, blk_set3 KB.out _ _ _, M2.out.2.2.lt⟩
  obtain ⟨P, rfl, rfl, hM4, hK4, hP⟩ := hcut
  have M4 := Lib.hid hM4
  have K4 := Lib.hid hK4
  have HPL := Lib.hid hP
  clear hM4 hK4 hP x0 x1 r0 p0 p1 p2 n0 n1 n2 n3 n4 n5
  have x0 := M4.out.box0
  have x1 := M4.out.box1
  go_wp2_with fail
  have M5 := M4
  have K5 := K4
  clear x0 x1 te tl te' tl'
  obtain ⟨c0, c1, c2, _, _, _⟩ := blkCells K5.out
  obtain ⟨q0, q1, q2, f0, f1, f2⟩ := OwnB.facts M5.out.2.1.2.1 k KK.out
  have r0 := M5.out.2.1.cell0
  have x0 := M5.out.box0
  go_region
  go_wp2_with fail
  go_ret
  have F := M5.out.2.1.blk k KK.out (Xn, Xi, Xo)
  have BF := ((M5.out.1.setCell (p := ⟨g, k * 3, none⟩) M5.out.2.1.2.1.le (.int .i64 Xn)).setCell (p := ⟨g, k * 3 + 1, none⟩) M5.out.2.1.2.1.le (.bool Xi)).setCell (p := ⟨g, k * 3 + 2, none⟩) M5.out.2.1.2.1.le (.bool Xo)
  exact ⟨rfl, BF.drew, by rw [HST.out]; exact F⟩
set_option maxHeartbeats 3200000 in
theorem move_e_no (base R g d g' d' k : Nat) (bs : List BV) (ts : List Int) (s : ByteArray) (w : World) (hn : bs.length ≤ 5) (hm : ts.length ≤ 5) (hk : k < bs.length) (hs : s.size ≤ 9223372036854775807) (hr : RwO w base R g d g' d' bs ts) (hj : bstep (bs.getD k Z3) s = 3) (hs1 : s = ⟨#[101]⟩) (hq : atF ts (2 * (k : Int)) ts.length < 0) :
    Calls Try.prog 52 #[.pointer (some ⟨R, 0, none⟩), .agg #[.int .i64 (k : Int), .string s]] w (MoveV w base R g d g' d' bs ts false) := by
  have BB := Lib.hid hr.bsle
  have M1 := Lib.hid (RwM.new (m := (k : Int)) (s := s) hr)
  have HGL := Lib.hid hr.2.2.1.lt
  have i1 : (k : Int) < (bs.length : Int) := by omega
  have t1 := dec_f (show ¬ (k : Int) < 0 by omega)
  have t2 := dec_f (show ¬ (bs.length : Int) ≤ (k : Int) by omega)
  have t2n := dec_f (show ¬ bs.length ≤ k by omega)
  have KK := Lib.hid hk
  obtain ⟨⟨n, i, o⟩, hx⟩ : ∃ x, bs.getD k Z3 = x := ⟨_, rfl⟩
  rw [hx] at hj
  have hbs := fun w => implBstep_any n i o s w hs
  unfold BstV at hbs
  rw [bst_t hj (by omega), hj, dec_t (show 3 < 5 by omega)] at hbs
  obtain ⟨X, hX⟩ : ∃ X, st 3 = X := ⟨_, rfl⟩
  rw [hX] at hbs
  obtain ⟨Xn, Xi, Xo⟩ := X
  simp only [bv] at hbs
  have HST := Lib.hid hX
  clear hX
  have te := (str_e (s := s)).trans (dec_t hs1)
  have te' := te
  rw [lit_e] at te'
  clear hs1
  have hix := fun W b c h => index_any b c ts (2 * (k : Int)) W (by omega) h
  obtain ⟨C, hC⟩ : ∃ C, atF ts (2 * (k : Int)) ts.length = C := ⟨_, rfl⟩
  rw [hC] at hix hq
  have HIX := Lib.hid hix
  have u1 : IntKind.i64.wrap (2 * (k : Int)) = 2 * (k : Int) := IntWalk.i64_in _ (by omega)
  have v1 := dec_t hq
  have v3 := dec_t (show (0 : Int) ≤ 2 * (k : Int) by omega)
  clear hC hix
  have HX := Lib.hid hx
  have HBS := Lib.hid hbs
  have HCL : Hid (∀ W, RwM w W base R g d g' d' w.heap.size bs ts (k : Int) s → W.cell? ⟨g, k * 3, none⟩ = some (.int .i64 n) ∧ W.cell? ⟨g, k * 3 + 1, none⟩ = some (.bool i) ∧ W.cell? ⟨g, k * 3 + 2, none⟩ = some (.bool o)) := Lib.hid fun W h => by
    have := h.2.1.2.1.at.at0 KK.out
    rw [HX.out] at this
    exact this
  clear hx hbs hr hj hk t2n
  go_enter Try.func52, Try.ntmps52
  go_wp2_with fail
  generalize w.alloc (.cells #[.int .i64 (k : Int), .string s] 36) = W1 at *
  have x0 := M1.out.box0
  have r0 := M1.out.2.1.cell0
  go_quiet (fail)
  clear x0 r0
  have M2 := Lib.hid (M1.out.drewN nq)
  generalize W1.drewN nq = W2 at *
  have x0 := M2.out.box0
  have x1 := M2.out.box1
  have r0 := M2.out.2.1.cell0
  obtain ⟨p0, p1, p2⟩ := HCL.out _ M2.out
  have n0 := World.new_ne W2 _ r0
  have n1 := World.new_ne W2 _ x0
  have n2 := World.new_ne W2 _ x1
  have n3 := World.new_ne W2 _ p0
  have n4 := World.new_ne W2 _ p1
  have n5 := World.new_ne W2 _ p2
  go_upto_region 3 with fail
  go_cut [5, 6] (fun a5 a6 wx => ∃ P : Nat, a5 = .pointer (some ⟨P, 0, none⟩) ∧ a6 = .bool true ∧ RwM w wx base R g d g' d' w.heap.size bs ts (k : Int) s ∧ Blk wx P 48 #[.int .i64 Xn, .bool Xi, .bool Xo] ∧ w.heap.size < P)
  case first =>
    go_region_held3 (fun w' => w'.cell? ⟨R, 0, none⟩ = some (.slice (some ⟨g, 0, none⟩) bs.length d) ∧ w'.cell? ⟨w.heap.size, 0, none⟩ = some (.int .i64 (k : Int)) ∧ w'.cell? ⟨w.heap.size, 1, none⟩ = some (.string s) ∧ w'.cell? ⟨g, k * 3, none⟩ = some (.int .i64 n) ∧ w'.cell? ⟨g, k * 3 + 1, none⟩ = some (.bool i) ∧ w'.cell? ⟨g, k * 3 + 2, none⟩ = some (.bool o)) (go_keep) (first | (go_at_call 45; go_must (go_fit (HBS.out _); rintro e w3 ⟨rfl, hb3⟩; (first | (have M3 := Lib.hid (M2.out.drew.step hb3); have y0 := M3.out.box0; have y1 := M3.out.box1; have y2 := M3.out.2.1.cell0; have y3 := (HCL.out _ M3.out).1; have y4 := (HCL.out _ M3.out).2.1; have y5 := (HCL.out _ M3.out).2.2; clear hb3) | (have M3 := Lib.hid ((M2.out.step (below_new W2 _)).drew.step hb3); have KB := Lib.hid ((Blk.new W2 _ _).drew.below hb3 (by simp)); obtain ⟨e0, e1, e2, e3, e4, e5⟩ := blkCells KB.out; have y0 := M3.out.box0; have y1 := M3.out.box1; have y2 := M3.out.2.1.cell0; have y3 := (HCL.out _ M3.out).1; have y4 := (HCL.out _ M3.out).2.1; have y5 := (HCL.out _ M3.out).2.2; clear hb3)))))
    all_goals
      go_wp2_with fail
      go_meet
      first
        | exact ⟨w3.heap.size, rfl, rfl, M3.out.step (below_new w3 _), Blk.new _ _ _, M3.out.2.2.lt⟩
        | exact ⟨W2.heap.size, rfl, rfl, M3.out.far3 M2.out.2.2.lt M2.out.2.1 _ _ _, blk_set3 KB.out _ _ _, M2.out.2.2.lt⟩
  obtain ⟨P, rfl, rfl, hM4, hK4, hP⟩ := hcut
  have M4 := Lib.hid hM4
  have K4 := Lib.hid hK4
  have HPL := Lib.hid hP
  clear hM4 hK4 hP x0 x1 r0 p0 p1 p2 n0 n1 n2 n3 n4 n5
  have x0 := M4.out.box0
  have x1 := M4.out.box1
  have r1 := M4.out.2.1.cell1
  go_wp2_with (go_at_call 76; go_must (go_fit (HIX.out _ _ _ M4.out.2.1.2.2.1.at); rintro e w5 ⟨rfl, rfl⟩))
  go_ret
  exact ⟨rfl, M4.out.1, M4.out.2.1⟩
set_option maxHeartbeats 3200000 in
theorem move_l_no (base R g d g' d' k : Nat) (bs : List BV) (ts : List Int) (s : ByteArray) (w : World) (hn : bs.length ≤ 5) (hm : ts.length ≤ 5) (hk : k < bs.length) (hs : s.size ≤ 9223372036854775807) (hr : RwO w base R g d g' d' bs ts) (hj : bstep (bs.getD k Z3) s = 4) (hs1 : s = ⟨#[108]⟩) (hq : atF ts (2 * (k : Int) + 1) ts.length < 0) :
    Calls Try.prog 52 #[.pointer (some ⟨R, 0, none⟩), .agg #[.int .i64 (k : Int), .string s]] w (MoveV w base R g d g' d' bs ts false) := by
  have BB := Lib.hid hr.bsle
  have M1 := Lib.hid (RwM.new (m := (k : Int)) (s := s) hr)
  have HGL := Lib.hid hr.2.2.1.lt
  have i1 : (k : Int) < (bs.length : Int) := by omega
  have t1 := dec_f (show ¬ (k : Int) < 0 by omega)
  have t2 := dec_f (show ¬ (bs.length : Int) ≤ (k : Int) by omega)
  have t2n := dec_f (show ¬ bs.length ≤ k by omega)
  have KK := Lib.hid hk
  obtain ⟨⟨n, i, o⟩, hx⟩ : ∃ x, bs.getD k Z3 = x := ⟨_, rfl⟩
  rw [hx] at hj
  have hbs := fun w => implBstep_any n i o s w hs
  unfold BstV at hbs
  rw [bst_t hj (by omega), hj, dec_t (show 4 < 5 by omega)] at hbs
  obtain ⟨X, hX⟩ : ∃ X, st 4 = X := ⟨_, rfl⟩
  rw [hX] at hbs
  obtain ⟨Xn, Xi, Xo⟩ := X
  simp only [bv] at hbs
  have HST := Lib.hid hX
  clear hX
  have te := (str_e (s := s)).trans (dec_f (by rw [hs1]; decide))
  have te' := te
  rw [lit_e] at te'
  have tl := (str_l (s := s)).trans (dec_t hs1)
  have tl' := tl
  rw [lit_l] at tl'
  clear hs1
  have hix := fun W b c h => index_any b c ts (2 * (k : Int) + 1) W (by omega) h
  obtain ⟨C, hC⟩ : ∃ C, atF ts (2 * (k : Int) + 1) ts.length = C := ⟨_, rfl⟩
  rw [hC] at hix hq
  have HIX := Lib.hid hix
  have u1 : IntKind.i64.wrap (2 * (k : Int)) = 2 * (k : Int) := IntWalk.i64_in _ (by omega)
  have u2 : IntKind.i64.wrap (2 * (k : Int) + 1) = 2 * (k : Int) + 1 := IntWalk.i64_in _ (by omega)
  have v1 := dec_t hq
  have v3 := dec_t (show (0 : Int) ≤ 2 * (k : Int) + 1 by omega)
  clear hC hix
  have HX := Lib.hid hx
  have HBS := Lib.hid hbs
  have HCL : Hid (∀ W, RwM w W base R g d g' d' w.heap.size bs ts (k : Int) s → W.cell? ⟨g, k * 3, none⟩ = some (.int .i64 n) ∧ W.cell? ⟨g, k * 3 + 1, none⟩ = some (.bool i) ∧ W.cell? ⟨g, k * 3 + 2, none⟩ = some (.bool o)) := Lib.hid fun W h => by
    have := h.2.1.2.1.at.at0 KK.out
    rw [HX.out] at this
    exact this
  clear hx hbs hr hj hk t2n
  go_enter Try.func52, Try.ntmps52
  go_wp2_with fail
  generalize w.alloc (.cells #[.int .i64 (k : Int), .string s] 36) = W1 at *
  have x0 := M1.out.box0
  have r0 := M1.out.2.1.cell0
  go_quiet (fail)
  clear x0 r0
  have M2 := Lib.hid (M1.out.drewN nq)
  generalize W1.drewN nq = W2 at *
  have x0 := M2.out.box0
  have x1 := M2.out.box1
  have r0 := M2.out.2.1.cell0
  obtain ⟨p0, p1, p2⟩ := HCL.out _ M2.out
  have n0 := World.new_ne W2 _ r0
  have n1 := World.new_ne W2 _ x0
  have n2 := World.new_ne W2 _ x1
  have n3 := World.new_ne W2 _ p0
  have n4 := World.new_ne W2 _ p1
  have n5 := World.new_ne W2 _ p2
  go_upto_region 3 with fail
  go_cut [5, 6] (fun a5 a6 wx => ∃ P : Nat, a5 = .pointer (some ⟨P, 0, none⟩) ∧ a6 = .bool true ∧ RwM w wx base R g d g' d' w.heap.size bs ts (k : Int) s ∧ Blk wx P 48 #[.int .i64 Xn, .bool Xi, .bool Xo] ∧ w.heap.size < P)
  case first =>
    go_region_held3 (fun w' => w'.cell? ⟨R, 0, none⟩ = some (.slice (some ⟨g, 0, none⟩) bs.length d) ∧ w'.cell? ⟨w.heap.size, 0, none⟩ = some (.int .i64 (k : Int)) ∧ w'.cell? ⟨w.heap.size, 1, none⟩ = some (.string s) ∧ w'.cell? ⟨g, k * 3, none⟩ = some (.int .i64 n) ∧ w'.cell? ⟨g, k * 3 + 1, none⟩ = some (.bool i) ∧ w'.cell? ⟨g, k * 3 + 2, none⟩ = some (.bool o)) (go_keep) (first | (go_at_call 45; go_must (go_fit (HBS.out _); rintro e w3 ⟨rfl, hb3⟩; (first | (have M3 := Lib.hid (M2.out.drew.step hb3); have y0 := M3.out.box0; have y1 := M3.out.box1; have y2 := M3.out.2.1.cell0; have y3 := (HCL.out _ M3.out).1; have y4 := (HCL.out _ M3.out).2.1; have y5 := (HCL.out _ M3.out).2.2; clear hb3) | (have M3 := Lib.hid ((M2.out.step (below_new W2 _)).drew.step hb3); have KB := Lib.hid ((Blk.new W2 _ _).drew.below hb3 (by simp)); obtain ⟨e0, e1, e2, e3, e4, e5⟩ := blkCells KB.out; have y0 := M3.out.box0; have y1 := M3.out.box1; have y2 := M3.out.2.1.cell0; have y3 := (HCL.out _ M3.out).1; have y4 := (HCL.out _ M3.out).2.1; have y5 := (HCL.out _ M3.out).2.2; clear hb3)))))
    all_goals
      go_wp2_with fail
      go_meet
      first
        | exact ⟨w3.heap.size, rfl, rfl, M3.out.step (below_new w3 _), Blk.new _ _ _, M3.out.2.2.lt⟩
        | exact ⟨W2.heap.size, rfl, rfl, M3.out.far3 M2.out.2.2.lt M2.out.2.1 _ _ _, blk_set3 KB.out _ _ _, M2.out.2.2.lt⟩
  obtain ⟨P, rfl, rfl, hM4, hK4, hP⟩ := hcut
  have M4 := Lib.hid hM4
  have K4 := Lib.hid hK4
  have HPL := Lib.hid hP
  clear hM4 hK4 hP x0 x1 r0 p0 p1 p2 n0 n1 n2 n3 n4 n5
  have x0 := M4.out.box0
  have x1 := M4.out.box1
  have r1 := M4.out.2.1.cell1
  go_wp2_with (go_at_call 76; go_must (go_fit (HIX.out _ _ _ M4.out.2.1.2.2.1.at); rintro e w5 ⟨rfl, rfl⟩))
  go_ret
  exact ⟨rfl, M4.out.1, M4.out.2.1⟩
set_option maxHeartbeats 3200000 in
theorem move_e (base R g d g' d' k : Nat) (bs : List BV) (ts : List Int) (s : ByteArray) (w : World) (hn : bs.length ≤ 5) (hm : ts.length ≤ 5) (hk : k < bs.length) (hs : s.size ≤ 9223372036854775807) (hr : RwO w base R g d g' d' bs ts) (hj : bstep (bs.getD k Z3) s = 3) (hs1 : s = ⟨#[101]⟩) (q : Nat) (hq : atF ts (2 * (k : Int)) ts.length = (q : Int)) (hql : q < ts.length) (hqv : ts.getD q 0 = 2 * (k : Int)) :
    Calls Try.prog 52 #[.pointer (some ⟨R, 0, none⟩), .agg #[.int .i64 (k : Int), .string s]] w (MoveV w base R g d g' d' (bs.set k (st 3)) (ts.set q (2 * (k : Int) + 1)) true) := by
  have BB := Lib.hid hr.bsle
  have M1 := Lib.hid (RwM.new (m := (k : Int)) (s := s) hr)
  have HGL := Lib.hid hr.2.2.1.lt
  have i1 : (k : Int) < (bs.length : Int) := by omega
  have t1 := dec_f (show ¬ (k : Int) < 0 by omega)
  have t2 := dec_f (show ¬ (bs.length : Int) ≤ (k : Int) by omega)
  have t2n := dec_f (show ¬ bs.length ≤ k by omega)
  have KK := Lib.hid hk
  obtain ⟨⟨n, i, o⟩, hx⟩ : ∃ x, bs.getD k Z3 = x := ⟨_, rfl⟩
  rw [hx] at hj
  have hbs := fun w => implBstep_any n i o s w hs
  unfold BstV at hbs
  rw [bst_t hj (by omega), hj, dec_t (show 3 < 5 by omega)] at hbs
  obtain ⟨X, hX⟩ : ∃ X, st 3 = X := ⟨_, rfl⟩
  rw [hX] at hbs
  obtain ⟨Xn, Xi, Xo⟩ := X
  simp only [bv] at hbs
  have HST := Lib.hid hX
  clear hX
  have te := (str_e (s := s)).trans (dec_t hs1)
  have te' := te
  rw [lit_e] at te'
  clear hs1
  have hix := fun W b c h => index_any b c ts (2 * (k : Int)) W (by omega) h
  obtain ⟨C, hC⟩ : ∃ C, atF ts (2 * (k : Int)) ts.length = C := ⟨_, rfl⟩
  rw [hC] at hix hq
  have HIX := Lib.hid hix
  have u1 : IntKind.i64.wrap (2 * (k : Int)) = 2 * (k : Int) := IntWalk.i64_in _ (by omega)
  subst hq
  have HQV := Lib.hid hqv
  have HQL := Lib.hid hql
  have v1 := dec_f (show ¬ (q : Int) < 0 by omega)
  have v2 : (q : Int) < (ts.length : Int) := by omega
  have v3 := dec_t (show (0 : Int) ≤ 2 * (k : Int) by omega)
  clear hC hix hqv
  have HX := Lib.hid hx
  have HBS := Lib.hid hbs
  have HCL : Hid (∀ W, RwM w W base R g d g' d' w.heap.size bs ts (k : Int) s → W.cell? ⟨g, k * 3, none⟩ = some (.int .i64 n) ∧ W.cell? ⟨g, k * 3 + 1, none⟩ = some (.bool i) ∧ W.cell? ⟨g, k * 3 + 2, none⟩ = some (.bool o)) := Lib.hid fun W h => by
    have := h.2.1.2.1.at.at0 KK.out
    rw [HX.out] at this
    exact this
  clear hx hbs hr hj hk t2n
  go_enter Try.func52, Try.ntmps52
  go_wp2_with fail
  generalize w.alloc (.cells #[.int .i64 (k : Int), .string s] 36) = W1 at *
  have x0 := M1.out.box0
  have r0 := M1.out.2.1.cell0
  go_quiet (fail)
  clear x0 r0
  have M2 := Lib.hid (M1.out.drewN nq)
  generalize W1.drewN nq = W2 at *
  have x0 := M2.out.box0
  have x1 := M2.out.box1
  have r0 := M2.out.2.1.cell0
  obtain ⟨p0, p1, p2⟩ := HCL.out _ M2.out
  have n0 := World.new_ne W2 _ r0
  have n1 := World.new_ne W2 _ x0
  have n2 := World.new_ne W2 _ x1
  have n3 := World.new_ne W2 _ p0
  have n4 := World.new_ne W2 _ p1
  have n5 := World.new_ne W2 _ p2
  go_upto_region 3 with fail
  go_cut [5, 6] (fun a5 a6 wx => ∃ P : Nat, a5 = .pointer (some ⟨P, 0, none⟩) ∧ a6 = .bool true ∧ RwM w wx base R g d g' d' w.heap.size bs ts (k : Int) s ∧ Blk wx P 48 #[.int .i64 Xn, .bool Xi, .bool Xo] ∧ w.heap.size < P)
  case first =>
    go_region_held3 (fun w' => w'.cell? ⟨R, 0, none⟩ = some (.slice (some ⟨g, 0, none⟩) bs.length d) ∧ w'.cell? ⟨w.heap.size, 0, none⟩ = some (.int .i64 (k : Int)) ∧ w'.cell? ⟨w.heap.size, 1, none⟩ = some (.string s) ∧ w'.cell? ⟨g, k * 3, none⟩ = some (.int .i64 n) ∧ w'.cell? ⟨g, k * 3 + 1, none⟩ = some (.bool i) ∧ w'.cell? ⟨g, k * 3 + 2, none⟩ = some (.bool o)) (go_keep) (first | (go_at_call 45; go_must (go_fit (HBS.out _); rintro e w3 ⟨rfl, hb3⟩; (first | (have M3 := Lib.hid (M2.out.drew.step hb3); have y0 := M3.out.box0; have y1 := M3.out.box1; have y2 := M3.out.2.1.cell0; have y3 := (HCL.out _ M3.out).1; have y4 := (HCL.out _ M3.out).2.1; have y5 := (HCL.out _ M3.out).2.2; clear hb3) | (have M3 := Lib.hid ((M2.out.step (below_new W2 _)).drew.step hb3); have KB := Lib.hid ((Blk.new W2 _ _).drew.below hb3 (by simp)); obtain ⟨e0, e1, e2, e3, e4, e5⟩ := blkCells KB.out; have y0 := M3.out.box0; have y1 := M3.out.box1; have y2 := M3.out.2.1.cell0; have y3 := (HCL.out _ M3.out).1; have y4 := (HCL.out _ M3.out).2.1; have y5 := (HCL.out _ M3.out).2.2; clear hb3)))))
    all_goals
      go_wp2_with fail
      go_meet
      first
        | exact ⟨w3.heap.size, rfl, rfl, M3.out.step (below_new w3 _), Blk.new _ _ _, M3.out.2.2.lt⟩
        | exact ⟨W2.heap.size, rfl, rfl, M3.out.far3 M2.out.2.2.lt M2.out.2.1 _ _ _, blk_set3 KB.out _ _ _, M2.out.2.2.lt⟩
  obtain ⟨P, rfl, rfl, hM4, hK4, hP⟩ := hcut
  have M4 := Lib.hid hM4
  have K4 := Lib.hid hK4
  have HPL := Lib.hid hP
  clear hM4 hK4 hP x0 x1 r0 p0 p1 p2 n0 n1 n2 n3 n4 n5
  have x0 := M4.out.box0
  have x1 := M4.out.box1
  have r1 := M4.out.2.1.cell1
  have q0 := M4.out.2.1.2.2.1.at.at0 HQL.out
  rw [HQV.out] at q0
  have fz := OwnV.frozen M4.out.2.1.2.2.1 q
  go_wp2_with (go_at_call 76; go_must (go_fit (HIX.out _ _ _ M4.out.2.1.2.2.1.at); rintro e w5 ⟨rfl, rfl⟩))
  have M5 : Hid (RwM w (wc.setCell ⟨g', q, none⟩ (.int .i64 (2 * (k : Int) + 1))) base R g d g' d' w.heap.size bs (ts.set q (2 * (k : Int) + 1)) (k : Int) s) := Lib.hid ⟨M4.out.1.setCell M4.out.2.1.2.2.1.le _, M4.out.2.1.train q _, M4.out.2.2.far (by have := HGL.out; show w.heap.size ≠ g'; omega) _⟩
  have K5 := Lib.hid (Blk.far K4.out (p := ⟨g', q, none⟩) (by have := HGL.out; have := HPL.out; show P ≠ g'; omega) (.int .i64 (2 * (k : Int) + 1)))
  generalize wc.setCell ⟨g', q, none⟩ (.int .i64 (2 * (k : Int) + 1)) = W5 at *
  clear x0 x1 r1 q0 fz te te'
  obtain ⟨c0, c1, c2, _, _, _⟩ := blkCells K5.out
  obtain ⟨q0, q1, q2, f0, f1, f2⟩ := OwnB.facts M5.out.2.1.2.1 k KK.out
  have r0 := M5.out.2.1.cell0
  have x0 := M5.out.box0
  go_region
  go_wp2_with fail
  go_ret
  have F := M5.out.2.1.blk k KK.out (Xn, Xi, Xo)
  have BF := ((M5.out.1.setCell (p := ⟨g, k * 3, none⟩) M5.out.2.1.2.1.le (.int .i64 Xn)).setCell (p := ⟨g, k * 3 + 1, none⟩) M5.out.2.1.2.1.le (.bool Xi)).setCell (p := ⟨g, k * 3 + 2, none⟩) M5.out.2.1.2.1.le (.bool Xo)
  exact ⟨rfl, BF.drew, by rw [HST.out]; exact F⟩
set_option maxHeartbeats 3200000 in
theorem move_l (base R g d g' d' k : Nat) (bs : List BV) (ts : List Int) (s : ByteArray) (w : World) (hn : bs.length ≤ 5) (hm : ts.length ≤ 5) (hk : k < bs.length) (hs : s.size ≤ 9223372036854775807) (hr : RwO w base R g d g' d' bs ts) (hj : bstep (bs.getD k Z3) s = 4) (hs1 : s = ⟨#[108]⟩) (q : Nat) (hq : atF ts (2 * (k : Int) + 1) ts.length = (q : Int)) (hql : q < ts.length) (hqv : ts.getD q 0 = 2 * (k : Int) + 1) :
    Calls Try.prog 52 #[.pointer (some ⟨R, 0, none⟩), .agg #[.int .i64 (k : Int), .string s]] w (MoveV w base R g d g' d' (bs.set k (st 4)) (ts.set q (2 * (k : Int) + 1 + 1)) true) := by
  have BB := Lib.hid hr.bsle
  have M1 := Lib.hid (RwM.new (m := (k : Int)) (s := s) hr)
  have HGL := Lib.hid hr.2.2.1.lt
  have i1 : (k : Int) < (bs.length : Int) := by omega
  have t1 := dec_f (show ¬ (k : Int) < 0 by omega)
  have t2 := dec_f (show ¬ (bs.length : Int) ≤ (k : Int) by omega)
  have t2n := dec_f (show ¬ bs.length ≤ k by omega)
  have KK := Lib.hid hk
  obtain ⟨⟨n, i, o⟩, hx⟩ : ∃ x, bs.getD k Z3 = x := ⟨_, rfl⟩
  rw [hx] at hj
  have hbs := fun w => implBstep_any n i o s w hs
  unfold BstV at hbs
  rw [bst_t hj (by omega), hj, dec_t (show 4 < 5 by omega)] at hbs
  obtain ⟨X, hX⟩ : ∃ X, st 4 = X := ⟨_, rfl⟩
  rw [hX] at hbs
  obtain ⟨Xn, Xi, Xo⟩ := X
  simp only [bv] at hbs
  have HST := Lib.hid hX
  clear hX
  have te := (str_e (s := s)).trans (dec_f (by rw [hs1]; decide))
  have te' := te
  rw [lit_e] at te'
  have tl := (str_l (s := s)).trans (dec_t hs1)
  have tl' := tl
  rw [lit_l] at tl'
  clear hs1
  have hix := fun W b c h => index_any b c ts (2 * (k : Int) + 1) W (by omega) h
  obtain ⟨C, hC⟩ : ∃ C, atF ts (2 * (k : Int) + 1) ts.length = C := ⟨_, rfl⟩
  rw [hC] at hix hq
  have HIX := Lib.hid hix
  have u1 : IntKind.i64.wrap (2 * (k : Int)) = 2 * (k : Int) := IntWalk.i64_in _ (by omega)
  have u2 : IntKind.i64.wrap (2 * (k : Int) + 1) = 2 * (k : Int) + 1 := IntWalk.i64_in _ (by omega)
  subst hq
  have HQV := Lib.hid hqv
  have HQL := Lib.hid hql
  have v1 := dec_f (show ¬ (q : Int) < 0 by omega)
  have v2 : (q : Int) < (ts.length : Int) := by omega
  have v3 := dec_t (show (0 : Int) ≤ 2 * (k : Int) + 1 by omega)
  clear hC hix hqv
  have HX := Lib.hid hx
  have HBS := Lib.hid hbs
  have HCL : Hid (∀ W, RwM w W base R g d g' d' w.heap.size bs ts (k : Int) s → W.cell? ⟨g, k * 3, none⟩ = some (.int .i64 n) ∧ W.cell? ⟨g, k * 3 + 1, none⟩ = some (.bool i) ∧ W.cell? ⟨g, k * 3 + 2, none⟩ = some (.bool o)) := Lib.hid fun W h => by
    have := h.2.1.2.1.at.at0 KK.out
    rw [HX.out] at this
    exact this
  clear hx hbs hr hj hk t2n
  go_enter Try.func52, Try.ntmps52
  go_wp2_with fail
  generalize w.alloc (.cells #[.int .i64 (k : Int), .string s] 36) = W1 at *
  have x0 := M1.out.box0
  have r0 := M1.out.2.1.cell0
  go_quiet (fail)
  clear x0 r0
  have M2 := Lib.hid (M1.out.drewN nq)
  generalize W1.drewN nq = W2 at *
  have x0 := M2.out.box0
  have x1 := M2.out.box1
  have r0 := M2.out.2.1.cell0
  obtain ⟨p0, p1, p2⟩ := HCL.out _ M2.out
  have n0 := World.new_ne W2 _ r0
  have n1 := World.new_ne W2 _ x0
  have n2 := World.new_ne W2 _ x1
  have n3 := World.new_ne W2 _ p0
  have n4 := World.new_ne W2 _ p1
  have n5 := World.new_ne W2 _ p2
  go_upto_region 3 with fail
  go_cut [5, 6] (fun a5 a6 wx => ∃ P : Nat, a5 = .pointer (some ⟨P, 0, none⟩) ∧ a6 = .bool true ∧ RwM w wx base R g d g' d' w.heap.size bs ts (k : Int) s ∧ Blk wx P 48 #[.int .i64 Xn, .bool Xi, .bool Xo] ∧ w.heap.size < P)
  case first =>
    go_region_held3 (fun w' => w'.cell? ⟨R, 0, none⟩ = some (.slice (some ⟨g, 0, none⟩) bs.length d) ∧ w'.cell? ⟨w.heap.size, 0, none⟩ = some (.int .i64 (k : Int)) ∧ w'.cell? ⟨w.heap.size, 1, none⟩ = some (.string s) ∧ w'.cell? ⟨g, k * 3, none⟩ = some (.int .i64 n) ∧ w'.cell? ⟨g, k * 3 + 1, none⟩ = some (.bool i) ∧ w'.cell? ⟨g, k * 3 + 2, none⟩ = some (.bool o)) (go_keep) (first | (go_at_call 45; go_must (go_fit (HBS.out _); rintro e w3 ⟨rfl, hb3⟩; (first | (have M3 := Lib.hid (M2.out.drew.step hb3); have y0 := M3.out.box0; have y1 := M3.out.box1; have y2 := M3.out.2.1.cell0; have y3 := (HCL.out _ M3.out).1; have y4 := (HCL.out _ M3.out).2.1; have y5 := (HCL.out _ M3.out).2.2; clear hb3) | (have M3 := Lib.hid ((M2.out.step (below_new W2 _)).drew.step hb3); have KB := Lib.hid ((Blk.new W2 _ _).drew.below hb3 (by simp)); obtain ⟨e0, e1, e2, e3, e4, e5⟩ := blkCells KB.out; have y0 := M3.out.box0; have y1 := M3.out.box1; have y2 := M3.out.2.1.cell0; have y3 := (HCL.out _ M3.out).1; have y4 := (HCL.out _ M3.out).2.1; have y5 := (HCL.out _ M3.out).2.2; clear hb3)))))
    all_goals
      go_wp2_with fail
      go_meet
      first
        | exact ⟨w3.heap.size, rfl, rfl, M3.out.step (below_new w3 _), Blk.new _ _ _, M3.out.2.2.lt⟩
        | exact ⟨W2.heap.size, rfl, rfl, M3.out.far3 M2.out.2.2.lt M2.out.2.1 _ _ _, blk_set3 KB.out _ _ _, M2.out.2.2.lt⟩
  obtain ⟨P, rfl, rfl, hM4, hK4, hP⟩ := hcut
  have M4 := Lib.hid hM4
  have K4 := Lib.hid hK4
  have HPL := Lib.hid hP
  clear hM4 hK4 hP x0 x1 r0 p0 p1 p2 n0 n1 n2 n3 n4 n5
  have x0 := M4.out.box0
  have x1 := M4.out.box1
  have r1 := M4.out.2.1.cell1
  have q0 := M4.out.2.1.2.2.1.at.at0 HQL.out
  rw [HQV.out] at q0
  have fz := OwnV.frozen M4.out.2.1.2.2.1 q
  go_wp2_with (go_at_call 76; go_must (go_fit (HIX.out _ _ _ M4.out.2.1.2.2.1.at); rintro e w5 ⟨rfl, rfl⟩))
  have M5 : Hid (RwM w (wc.setCell ⟨g', q, none⟩ (.int .i64 (2 * (k : Int) + 1 + 1))) base R g d g' d' w.heap.size bs (ts.set q (2 * (k : Int) + 1 + 1)) (k : Int) s) := Lib.hid ⟨M4.out.1.setCell M4.out.2.1.2.2.1.le _, M4.out.2.1.train q _, M4.out.2.2.far (by have := HGL.out; show w.heap.size ≠ g'; omega) _⟩
  have K5 := Lib.hid (Blk.far K4.out (p := ⟨g', q, none⟩) (by have := HGL.out; have := HPL.out; show P ≠ g'; omega) (.int .i64 (2 * (k : Int) + 1 + 1)))
  generalize wc.setCell ⟨g', q, none⟩ (.int .i64 (2 * (k : Int) + 1 + 1)) = W5 at *
  clear x0 x1 r1 q0 fz te te' tl tl'
  obtain ⟨c0, c1, c2, _, _, _⟩ := blkCells K5.out
  obtain ⟨q0, q1, q2, f0, f1, f2⟩ := OwnB.facts M5.out.2.1.2.1 k KK.out
  have r0 := M5.out.2.1.cell0
  have x0 := M5.out.box0
  go_region
  go_wp2_with fail
  go_ret
  have F := M5.out.2.1.blk k KK.out (Xn, Xi, Xo)
  have BF := ((M5.out.1.setCell (p := ⟨g, k * 3, none⟩) M5.out.2.1.2.1.le (.int .i64 Xn)).setCell (p := ⟨g, k * 3 + 1, none⟩) M5.out.2.1.2.1.le (.bool Xi)).setCell (p := ⟨g, k * 3 + 2, none⟩) M5.out.2.1.2.1.le (.bool Xo)
  exact ⟨rfl, BF.drew, by rw [HST.out]; exact F⟩

def MoveO (w0 : World) (base R g d g' d' : Nat) (bs : List BV) (ts : List Int) (o : Option (List BV × List Int)) (e : Ending) (w' : World) : Prop :=
  match o with
  | none => MoveV w0 base R g d g' d' bs ts false e w'
  | some p => MoveV w0 base R g d g' d' p.1 p.2 true e w'
theorem move_any (base R g d g' d' : Nat) (bs : List BV) (ts : List Int) (m : Int) (s : ByteArray) (w : World) (hn : bs.length ≤ 5) (hm : ts.length ≤ 5) (hs : s.size ≤ 9223372036854775807) (hr : RwO w base R g d g' d' bs ts) :
    Calls Try.prog 52 #[.pointer (some ⟨R, 0, none⟩), .agg #[.int .i64 m, .string s]] w (MoveO w base R g d g' d' bs ts (stepI bs ts m s)) := by
  by_cases hmr : 0 ≤ m ∧ m < (bs.length : Int)
  · obtain ⟨k, rfl⟩ : ∃ k : Nat, m = (k : Int) := ⟨m.toNat, by omega⟩
    have hk : k < bs.length := by omega
    unfold stepI
    rw [if_pos hmr, Int.toNat_natCast]
    unfold stepU
    obtain ⟨j, hj⟩ : ∃ j, bstep (bs.getD k Z3) s = j := ⟨_, rfl⟩
    rw [hj]
    by_cases h5 : j = 5
    · rw [if_pos h5]
      exact move_no5 base R g d g' d' k bs ts s w hn hm hk hs hr (hj.trans h5)
    · rw [if_neg h5]
      rcases bstep_ways hj h5 with ⟨_, h1, rfl⟩ | ⟨_, h1, rfl⟩ | ⟨_, h1, rfl⟩ | ⟨_, h1, rfl⟩ | ⟨_, h1, rfl⟩ | ⟨_, h1, rfl⟩ | ⟨_, h1, rfl⟩
      case inl | inr.inl | inr.inr.inl | inr.inr.inr.inl | inr.inr.inr.inr.inr.inr =>
        rw [if_neg (by omega), if_neg (by omega)]
        exact move_plain base R g d g' d' k bs ts s w hn hm hk hs hr _ (by omega) hj (by rw [h1]; decide) (by rw [h1]; decide)
      case inr.inr.inr.inr.inl =>
        rw [if_pos rfl]
        by_cases ha : atF ts (2 * (k : Int)) ts.length < 0
        · rw [if_pos ha]
          exact move_e_no base R g d g' d' k bs ts s w hn hm hk hs hr hj h1 ha
        · rw [if_neg ha]
          have hsp := atF_spec (show 0 ≤ atF ts (2 * (k : Int)) ts.length by omega)
          exact move_e base R g d g' d' k bs ts s w hn hm hk hs hr hj h1 _ (by omega) hsp.1 hsp.2.1
      case inr.inr.inr.inr.inr.inl =>
        rw [if_neg (by omega), if_pos rfl]
        by_cases ha : atF ts (2 * (k : Int) + 1) ts.length < 0
        · rw [if_pos ha]
          exact move_l_no base R g d g' d' k bs ts s w hn hm hk hs hr hj h1 ha
        · rw [if_neg ha]
          have hsp := atF_spec (show 0 ≤ atF ts (2 * (k : Int) + 1) ts.length by omega)
          have hml := move_l base R g d g' d' k bs ts s w hn hm hk hs hr hj h1 _ (Int.toNat_of_nonneg (show 0 ≤ atF ts (2 * (k : Int) + 1) ts.length by omega)).symm hsp.1 hsp.2.1
          rw [show 2 * (k : Int) + 1 + 1 = 2 * (k : Int) + 2 by omega] at hml
          exact hml
  · unfold stepI
    rw [if_neg hmr]
    exact move_range base R g d g' d' bs ts m s w hn hr (by omega)
end Go.Proofs.Ytmgakfbchhefcaa
