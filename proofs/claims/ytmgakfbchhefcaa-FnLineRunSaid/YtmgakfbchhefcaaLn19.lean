/-
  Lines: the drawn line (l92Line): some line. No condition.
-/
import Derived.Test.YtmgakfbchhefcaaLn18
import Derived.Test.YtmgakfbchhefcaaDrawL
namespace Go.Proofs.Ytmgakfbchhefcaa
open Go.RowKit
set_option linter.unusedVariables false
set_option linter.unusedSimpArgs false

theorem gbR {w : World} {row : Option Nat} : w.grownBy w row := World.grownBy.refl _ _
theorem gbA {w W : World} {row : Option Nat} {o : Obj} (h : w.grownBy W row) : w.grownBy (W.alloc o) row := grownBy_alloc h o
theorem gbD {w W : World} {row : Option Nat} (h : w.grownBy W row) : w.grownBy W.drew row := ⟨h.os, h.tape, h.output, h.size, h.block⟩
theorem gbB {w W W' : World} {row : Option Nat} (h : w.grownBy W row) (k : Below W.heap.size W W') : w.grownBy W' row := grownBy_trans h ⟨k.os, k.tape, k.output, k.size, fun i hi _ => k.block i hi⟩
theorem rdA {w : World} {base R p : Nat} {o : Obj} (h : Rdr w base R p) : Rdr (w.alloc o) base R p := h.alloc o
theorem rdD {w : World} {base R p : Nat} (h : Rdr w base R p) : Rdr w.drew base R p := h
theorem rdB {w w' : World} {base R p : Nat} (h : Rdr w base R p) (k : Below w.heap.size w w') : Rdr w' base R p := h.below k h.lt
theorem blkG {X Y : World} {R P : Nat} {T : TypeId} {cs : Array Value} (hg : X.grownBy Y (some R)) (hk : Blk X P T cs) (hne : P ≠ R) : Blk Y P T cs := hk.grown hg (fun e => hne (by injection e))
/-- LineNew where it answers. -/
def NewOk (W : World) (e : Ending) (w' : World) : Prop := ∃ (bs : List BV) (ts : List Int) (g d g' d' : Nat), e = .returned (.tuple #[.agg #[.slice (some ⟨g, 0, none⟩) bs.length d, .slice (some ⟨g', 0, none⟩) ts.length d'], .bool true]) ∧ LnO w' W.heap.size g d g' d' bs ts ∧ (1 ≤ bs.length ∧ bs.length ≤ 4) ∧ ts.length ≤ 4 ∧ Below W.heap.size W w'
theorem new_ok (x y : Nat) (hx : x < 4) (hy : y < 5) (W : World) : Calls Try.prog 31 #[.int .i64 (1 + (x : Int)), .int .i64 (y : Int)] W (NewOk W) := by
  have h := specNew_any (1 + (x : Int)) (y : Int) W
  have hok : (inB 1 5 ((1 + x : Nat) : Int) && inB 0 5 (y : Int)) = true := by rw [inB_true (by omega), inB_true (by omega)]; rfl
  have e : (1 + (x : Int)) = ((1 + x : Nat) : Int) := by omega
  rw [e] at h ⊢
  rw [new_some hok] at h
  refine h.mono fun e w' ⟨g, d, g', d', he, h1, h2, h3, h4⟩ => ⟨_, _, g, d, g', d', ?_, ⟨h1, h2, h3⟩, by simp; omega, by simp; omega, h4⟩
  rw [he]; simp
/-- The reader, the result's box, the drawn line. -/
def Dl (w wx : World) (base R q P g d g' d' : Nat) (bs : List BV) (ts : List Int) : Prop :=
  w.grownBy wx (some R) ∧ Rdr wx base R q ∧ Blk wx w.heap.size 32 #[.slice none 0 0, .slice none 0 0] ∧ Blk wx P 32 #[.slice (some ⟨g, 0, none⟩) bs.length d, .slice (some ⟨g', 0, none⟩) ts.length d'] ∧ LnO wx (w.heap.size + 1) g d g' d' bs ts ∧ w.heap.size < P ∧ P ≠ g ∧ P ≠ g' ∧ (1 ≤ bs.length ∧ bs.length ≤ 4) ∧ ts.length ≤ 4
/-- What drawing a line leaves. -/
def SomeLn (w : World) (base R p : Nat) (e : Ending) (w' : World) : Prop := ∃ (bs : List BV) (ts : List Int) (g d g' d' q : Nat), e = .returned (.agg #[.slice (some ⟨g, 0, none⟩) bs.length d, .slice (some ⟨g', 0, none⟩) ts.length d']) ∧ LnO w' w.heap.size g d g' d' bs ts ∧ (1 ≤ bs.length ∧ bs.length ≤ 4) ∧ ts.length ≤ 5 ∧ q ≤ p + 40 ∧ Rdr w' base R q ∧ w.grownBy w' (some R)
theorem Dl.new {w w3 : World} {base R q h f h' f' : Nat} {bs : List BV} {ts : List Int} (hw : R < w.heap.size) (hg : w.grownBy w3 (some R)) (hr : Rdr w3 base R q) (hz : Blk w3 w.heap.size 32 #[.slice none 0 0, .slice none 0 0]) (ho : LnO w3 (w.heap.size + 1) h f h' f' bs ts) (hb : 1 ≤ bs.length ∧ bs.length ≤ 4) (ht : ts.length ≤ 4) :
    Dl w (w3.alloc (.cells #[.slice (some ⟨h, 0, none⟩) bs.length f, .slice (some ⟨h', 0, none⟩) ts.length f'] 32)) base R q w3.heap.size h f h' f' bs ts := by
  have l1 := ho.1.lt
  have l2 := ho.2.1.lt
  exact ⟨gbA hg, rdA hr, hz.alloc _, Blk.new _ _ _, ⟨OwnV.alloc ho.1 _, OwnV.alloc ho.2.1 _, ho.2.2⟩, hz.lt, by omega, by omega, hb, ht⟩
theorem gbS {w W : World} {R P i : Nat} (h : w.grownBy W (some R)) (hP : w.heap.size ≤ P) (v : Value) : w.grownBy (W.setCell ⟨P, i, none⟩ v) (some R) :=
  ⟨h.os, h.tape, h.output, by simpa using h.size, fun j hj hne => (Below.heap_setCell _ _ _ _ (by show j ≠ P; omega)).trans (h.block j hj hne)⟩
theorem rdS {w : World} {base R p P i : Nat} (h : Rdr w base R p) (hP : R < P) (v : Value) : Rdr (w.setCell ⟨P, i, none⟩ v) base R p := h.keep fun b hb => Below.heap_setCell _ _ _ _ (by show b ≠ P; omega)
theorem Dl.step {w W W' : World} {base R q P g d g' d' : Nat} {bs : List BV} {ts : List Int} (h : Dl w W base R q P g d g' d' bs ts) (k : Below W.heap.size W W') : Dl w W' base R q P g d g' d' bs ts :=
  ⟨gbB h.1 k, rdB h.2.1 k, h.2.2.1.below k h.2.2.1.lt, h.2.2.2.1.below k h.2.2.2.1.lt, h.2.2.2.2.1.below k, h.2.2.2.2.2⟩
theorem Dl.draw {w W : World} {base R q P g d g' d' : Nat} {bs : List BV} {ts : List Int} (h : Dl w W base R q P g d g' d' bs ts) : Dl w W.drew base R q P g d g' d' bs ts := ⟨gbD h.1, rdD h.2.1, h.2.2⟩
theorem Dl.pick {w W W' : World} {base R q P g d g' d' : Nat} {bs : List BV} {ts : List Int} (h : Dl w W base R q P g d g' d' bs ts) (hw : R < w.heap.size) (k : W.grownBy W' (some R)) (hr : Rdr W' base R (q + 1)) : Dl w W' base R (q + 1) P g d g' d' bs ts := by
  obtain ⟨h1, h2, h3, h4, ⟨h5, h6, h7⟩, h8, h9⟩ := h
  have l5 := h5.le
  have l6 := h6.le
  exact ⟨grownBy_trans h1 k, hr, blkG k h3 (by omega), blkG k h4 (by omega), ⟨OwnV.grown h5 k (by intro e; injection e; omega), OwnV.grown h6 k (by intro e; injection e; omega), h7⟩, h8, h9⟩
theorem Dl.put {w W : World} {base R q P g d g' d' B h f h' f' : Nat} {bs bn : List BV} {ts tn : List Int} (k : Dl w W base R q P g d g' d' bs ts) (hw : R < w.heap.size) (ho : LnO W B h f h' f' bn tn) (hB : P < B) (hl : bn.length = bs.length) (hl' : tn.length = ts.length) :
    Dl w ((W.setCell ⟨P, 0, none⟩ (.slice (some ⟨h, 0, none⟩) bn.length f)).setCell ⟨P, 1, none⟩ (.slice (some ⟨h', 0, none⟩) tn.length f')) base R q P h f h' f' bn tn := by
  obtain ⟨h1, h2, h3, h4, _, h8, _, _, h9, h10⟩ := k
  have l5 := ho.1.le
  have l6 := ho.2.1.le
  refine ⟨gbS (gbS h1 (by omega) _) (by omega) _, rdS (rdS h2 (by omega) _) (by omega) _, (h3.far (by show w.heap.size ≠ P; omega) _).far (by show w.heap.size ≠ P; omega) _, ?_, ⟨OwnV.far (OwnV.far (OwnV.mono ho.1 (by omega)) (by show h ≠ P; omega) _) (by show h ≠ P; omega) _, OwnV.far (OwnV.far (OwnV.mono ho.2.1 (by omega)) (by show h' ≠ P; omega) _) (by show h' ≠ P; omega) _, ho.2.2⟩, h8, by omega, by omega, by omega, by omega⟩
  have := (h4.set_ 0 (.slice (some ⟨h, 0, none⟩) bn.length f)).set_ 1 (.slice (some ⟨h', 0, none⟩) tn.length f')
  simpa using this
theorem stepV_len {bs bs' : List BV} {ts ts' : List Int} {m : Int} {s : ByteArray} (h : stepV bs ts m s = some (bs', ts')) : bs'.length = bs.length ∧ ts'.length = ts.length := by
  unfold stepV stepI at h
  repeat' split at h
  all_goals first | (cases h; done) | exact stepU_len h
/-- The result, written. -/
theorem Dl.fin {w W : World} {base R q g d g' d' : Nat} {bs : List BV} {ts : List Int} (h : w.grownBy W (some R) ∧ Rdr W base R q ∧ Blk W w.heap.size 32 #[.slice none 0 0, .slice none 0 0] ∧ LnO W (w.heap.size + 1) g d g' d' bs ts) (hw : R < w.heap.size) (u v : Value) :
    ((W.setCell ⟨w.heap.size, 0, none⟩ u).setCell ⟨w.heap.size, 1, none⟩ v).cell? ⟨w.heap.size, 0, none⟩ = some u ∧ ((W.setCell ⟨w.heap.size, 0, none⟩ u).setCell ⟨w.heap.size, 1, none⟩ v).cell? ⟨w.heap.size, 1, none⟩ = some v ∧
    LnO ((W.setCell ⟨w.heap.size, 0, none⟩ u).setCell ⟨w.heap.size, 1, none⟩ v) w.heap.size g d g' d' bs ts ∧ Rdr ((W.setCell ⟨w.heap.size, 0, none⟩ u).setCell ⟨w.heap.size, 1, none⟩ v) base R q ∧ w.grownBy ((W.setCell ⟨w.heap.size, 0, none⟩ u).setCell ⟨w.heap.size, 1, none⟩ v) (some R) := by
  obtain ⟨h1, h2, h3, h4, h5, h6⟩ := h
  have k := (h3.set_ 0 u).set_ 1 v
  have l4 := h4.le
  have l5 := h5.le
  refine ⟨?_, ?_, ⟨OwnV.far (OwnV.far (OwnV.mono h4 (by omega)) (by show g ≠ w.heap.size; omega) _) (by show g ≠ w.heap.size; omega) _, OwnV.far (OwnV.far (OwnV.mono h5 (by omega)) (by show g' ≠ w.heap.size; omega) _) (by show g' ≠ w.heap.size; omega) _, h6⟩, rdS (rdS h2 (by omega) _) (by omega) _, gbS (gbS h1 (by omega) _) (by omega) _⟩
  · rw [k.cell 0]; simp
  · rw [k.cell 1]; simp
theorem Dl.core {w W : World} {base R q P g d g' d' : Nat} {bs : List BV} {ts : List Int} (h : Dl w W base R q P g d g' d' bs ts) : w.grownBy W (some R) ∧ Rdr W base R q ∧ Blk W w.heap.size 32 #[.slice none 0 0, .slice none 0 0] ∧ LnO W (w.heap.size + 1) g d g' d' bs ts := ⟨h.1, h.2.1, h.2.2.1, h.2.2.2.2.1⟩
/-- The first block turned. -/
theorem Dl.blk {w W : World} {base R q P g d g' d' : Nat} {bs : List BV} {ts : List Int} (h : Dl w W base R q P g d g' d' bs ts) (hw : R < w.heap.size) (x : BV) :
    Dl w (((W.setCell ⟨g, 0, none⟩ (.int .i64 x.1)).setCell ⟨g, 1, none⟩ (.bool x.2.1)).setCell ⟨g, 2, none⟩ (.bool x.2.2)) base R q P g d g' d' (bs.set 0 x) ts := by
  obtain ⟨h1, h2, h3, h4, ⟨h5, h6, h7⟩, h8, h9, h10, h11, h12⟩ := h
  have l5 := h5.le
  have hst := h5.store 0 (by omega) x
  simp only [Nat.zero_mul, Nat.zero_add] at hst
  refine ⟨gbS (gbS (gbS h1 (by omega) _) (by omega) _) (by omega) _, rdS (rdS (rdS h2 (by omega) _) (by omega) _) (by omega) _, ((h3.far (by show w.heap.size ≠ g; omega) _).far (by show w.heap.size ≠ g; omega) _).far (by show w.heap.size ≠ g; omega) _, ?_, ⟨hst, OwnV.far (OwnV.far (OwnV.far h6 (fun e => h7 e.symm) _) (fun e => h7 e.symm) _) (fun e => h7 e.symm) _, h7⟩, h8, h9, h10, by simpa using h11, h12⟩
  rw [List.length_set]
  exact ((h4.far h9 _).far h9 _).far h9 _
/-- A train's place turned. -/
theorem Dl.train {w W : World} {base R q P g d g' d' : Nat} {bs : List BV} {ts : List Int} (h : Dl w W base R q P g d g' d' bs ts) (hw : R < w.heap.size) (i : Nat) (v : Int) :
    Dl w (W.setCell ⟨g', i, none⟩ (.int .i64 v)) base R q P g d g' d' bs (ts.set i v) := by
  obtain ⟨h1, h2, h3, h4, ⟨h5, h6, h7⟩, h8, h9, h10, h11, h12⟩ := h
  have l6 := h6.le
  refine ⟨gbS h1 (by omega) _, rdS h2 (by omega) _, h3.far (by show w.heap.size ≠ g'; omega) _, ?_, ⟨OwnV.far h5 h7 _, h6.store i v, h7⟩, h8, h9, h10, h11, by simpa using h12⟩
  rw [List.length_set]
  exact h4.far h10 _
theorem gbG {w W W' : World} {R g : Nat} (h : w.grownBy W (some R)) (k : W.grownBy W' (some g)) (hg : w.heap.size ≤ g) : w.grownBy W' (some R) :=
  ⟨k.os.trans h.os, k.tape.trans h.tape, k.output.trans h.output, Nat.le_trans h.size k.size, fun i hi hne => (k.block i (Nat.lt_of_lt_of_le hi h.size) (by intro e; injection e; omega)).trans (h.block i hi hne)⟩
/-- A train more. -/
theorem Dl.app {w W W' : World} {base R q P g d g' d' h c : Nat} {bs : List BV} {ts : List Int} {v : Int} (k : Dl w W base R q P g d g' d' bs ts) (hw : R < w.heap.size) (hg : W.grownBy W' (some g')) (ho : OwnM W' (w.heap.size + 1) h c (ts.length + 1) (ts ++ [v])) :
    Blk W' P 32 #[.slice (some ⟨g, 0, none⟩) bs.length d, .slice (some ⟨g', 0, none⟩) ts.length d'] ∧
    Blk (W'.setCell ⟨P, 1, none⟩ (.slice (some ⟨h, 0, none⟩) (ts.length + 1) c)) P 32 #[.slice (some ⟨g, 0, none⟩) bs.length d, .slice (some ⟨h, 0, none⟩) (ts.length + 1) c] ∧
    (w.grownBy (W'.setCell ⟨P, 1, none⟩ (.slice (some ⟨h, 0, none⟩) (ts.length + 1) c)) (some R) ∧ Rdr (W'.setCell ⟨P, 1, none⟩ (.slice (some ⟨h, 0, none⟩) (ts.length + 1) c)) base R q ∧ Blk (W'.setCell ⟨P, 1, none⟩ (.slice (some ⟨h, 0, none⟩) (ts.length + 1) c)) w.heap.size 32 #[.slice none 0 0, .slice none 0 0] ∧ LnO (W'.setCell ⟨P, 1, none⟩ (.slice (some ⟨h, 0, none⟩) (ts.length + 1) c)) (w.heap.size + 1) g d h c bs (ts ++ [v])) := by
  obtain ⟨h1, h2, h3, h4, ⟨h5, h6, h7⟩, h8, h9, h10, h11, h12⟩ := k
  have l6 := h6.le
  have l6' := h6.lt
  have kP : Blk W' P 32 #[.slice (some ⟨g, 0, none⟩) bs.length d, .slice (some ⟨g', 0, none⟩) ts.length d'] := h4.grown hg (by intro e; injection e; omega)
  have kZ : Blk W' w.heap.size 32 #[.slice none 0 0, .slice none 0 0] := h3.grown hg (by intro e; injection e; omega)
  have kB : OwnB W' (w.heap.size + 1) g d bs := OwnV.grown h5 hg (by intro e; injection e; exact h7 (by assumption))
  have n1 : P ≠ h := blk_own_ne kP ho (by decide)
  have n2 : g ≠ h := own_own_ne kB ho (by decide)
  refine ⟨kP, ?_, gbS (gbG h1 hg (by omega)) (by omega) _, rdS (h2.keep fun b hb => hg.block b (by have := h2.lt; omega) (by intro e; injection e; omega)) (by omega) _, kZ.far (by show w.heap.size ≠ P; omega) _, OwnV.far kB (by show g ≠ P; exact fun e => h9 e.symm) _, ?_, n2⟩
  · have := kP.set_ 1 (.slice (some ⟨h, 0, none⟩) (ts.length + 1) c)
    simpa using this
  · have := OwnM.own (OwnV.far ho (by show h ≠ P; exact fun e => n1 e.symm) (p := ⟨P, 1, none⟩) (.slice (some ⟨h, 0, none⟩) (ts.length + 1) c))
    exact this
theorem dlA {w W : World} {base R q P g d g' d' : Nat} {bs : List BV} {ts : List Int} {o : Obj} (h : Dl w W base R q P g d g' d' bs ts) : Dl w (W.alloc o) base R q P g d g' d' bs ts := h.step (below_new _ _)
theorem dlD {w W : World} {base R q P g d g' d' : Nat} {bs : List BV} {ts : List Int} (h : Dl w W base R q P g d g' d' bs ts) : Dl w W.drew base R q P g d g' d' bs ts := h.draw
theorem three_at (a b c : Int) (x : Nat) (hx : x < 3) : ∃ u, ([.int .i64 a, .int .i64 b, .int .i64 c] : List Value)[x]? = some (.int .i64 u) := by
  rcases (show x = 0 ∨ x = 1 ∨ x = 2 by omega) with rfl | rfl | rfl
  · exact ⟨a, rfl⟩
  · exact ⟨b, rfl⟩
  · exact ⟨c, rfl⟩
set_option maxHeartbeats 6400000 in
theorem l92Line_any (base R p : Nat) (w : World) (hp : p ≤ 100000) (hr : Rdr w base R p) :
    Calls Try.prog 61 #[.pointer (some ⟨R, 0, none⟩)] w (SomeLn w base R p) := by
  have RL := Lib.hid hr.lt
  have K0 := Lib.hid (Blk.new w 32 #[.slice none 0 0, .slice none 0 0])
  have R0 := Lib.hid (rdA (o := .cells #[.slice none 0 0, .slice none 0 0] 32) hr)
  have G0 : Hid (w.grownBy (w.alloc (.cells #[.slice none 0 0, .slice none 0 0] 32)) (some R)) := Lib.hid (gbA gbR)
  have Z0 := Lib.hid (show w.heap.size < (w.alloc (.cells #[.slice none 0 0, .slice none 0 0] 32)).heap.size by simp)
  clear hr
  go_enter Try.func61, Try.ntmps61
  go_wp2_with fail
  generalize w.alloc (.cells #[.slice none 0 0, .slice none 0 0] 32) = W0 at *
  refine (pick_any base R p 4 _ (by omega) (by omega) R0.out).mono ?_
  rintro e w1 ⟨x, rfl, hx, hr1, hg1⟩
  have hx4 : x < 4 := by have := hx (by omega); omega
  have R1 := Lib.hid hr1
  have G1 := Lib.hid (grownBy_trans G0.out hg1)
  have K1 := Lib.hid (blkG hg1 K0.out (by have := RL.out; omega))
  clear hx hr1 hg1 R0 K0 G0
  go_wp2_with fail
  refine (pick_any base R (p + 1) 5 _ (by omega) (by omega) R1.out).mono ?_
  rintro e w2 ⟨y, rfl, hy, hr2, hg2⟩
  have Y2 := Lib.hid (show y < 5 by have := hy (by omega); omega)
  have R2 := Lib.hid hr2
  have G2 := Lib.hid (grownBy_trans G1.out hg2)
  have K2 := Lib.hid (blkG hg2 K1.out (by have := RL.out; omega))
  clear hy hr2 hg2 R1 K1 G1
  go_wp2_with fail
  refine (new_ok x y hx4 Y2.out _).mono ?_
  rintro e w3 ⟨bs, ts, h, f, h', f', rfl, ho, hb, ht, hb3⟩
  have D3 := Lib.hid (Dl.new (f := f) (f' := f') RL.out (gbB G2.out hb3) (rdB R2.out hb3) (K2.out.below hb3 K2.out.lt) ⟨OwnV.mono ho.1 (by have := ho.1.le; have := K2.out.lt; omega), OwnV.mono ho.2.1 (by have := ho.2.1.le; have := K2.out.lt; omega), ho.2.2⟩ hb ht)
  clear ho hb ht hb3 R2 G2 K2 hx4 Y2
  go_upto_region 2 with fail
  generalize hW4 : w3.alloc (.cells #[.slice (some ⟨h, 0, none⟩) bs.length f, .slice (some ⟨h', 0, none⟩) ts.length f'] 32) = W4 at *
  generalize w3.heap.size = P at *
  clear hW4
  go_wp2_with fail
  refine (pick_any base R (p + 1 + 1) 25 _ (by omega) (by omega) D3.out.2.1).mono ?_
  rintro e w5 ⟨z, rfl, hz, hr5, hg5⟩
  have hz5 : z < 25 := by have := hz (by omega); omega
  have D5 := Lib.hid (D3.out.pick RL.out hg5 hr5)
  clear hz hr5 hg5 D3
  go_wp2_with fail
  go_loopw [6, 7] (fun i mv wr => ∃ (ii q g d g' d' : Nat) (bs : List BV) (ts : List Int), ii ≤ z ∧ i = .int .i64 ii ∧ q ≤ p + 3 + ii ∧ Dl w wr base R q P g d g' d' bs ts) (fun i _ _ => z - (intOf i).toNat)
  case atStart => exact ⟨0, _, h, f, h', f', bs, ts, Nat.zero_le _, rfl, by omega, D5.out⟩
  case round =>
    clear D5
    obtain ⟨ii, q, g, d, g', d', bs, ts, hi, rfl, hq, hD⟩ := hrel
    have D6 := Lib.hid hD
    obtain ⟨c0, c1, _, _⟩ := blkCells2 hD.2.2.2.1
    have hln := hD.2.2.2.2.2.2.2.2
    have HMV := Lib.hid (specMoves_any g d g' d' bs ts wr (by omega) (by omega) hD.2.2.2.2.1.1.lt hD.2.2.2.2.1.2.1.lt hD.2.2.2.2.1.1.at hD.2.2.2.2.1.2.1.at)
    clear hD
    by_cases hlt : ii < z
    · have i1 : (ii : Int) < (z : Int) := by omega
      go_wp2_with fail
      refine HMV.out.mono ?_
      rintro e w6 ⟨ms, gm, cm, rfl, hom, hsh, hml, hb6⟩
      have D7 := Lib.hid (D6.out.step hb6)
      have M7 := Lib.hid hom
      have SH := Lib.hid hsh
      have MB := Lib.hid (show wr.heap.size ≤ gm from OwnV.le hom)
      clear hom hsh hb6 c0 c1
      obtain ⟨c0, c1, _, _⟩ := blkCells2 D7.out.2.2.2.1
      by_cases hm0 : 0 < ms.length
      · have t1 := dec_t (show (0 : Int) < (ms.length : Int) by omega)
        have t1n := dec_t hm0
        have n9 : P ≠ w.heap.size := by have := D7.out.2.2.2.2.2.1; omega
        obtain ⟨c9, _, _, _⟩ := blkCells2 D7.out.2.2.1
        have mb := MB.out
        have pw := D6.out.2.2.2.1.lt
        have dw := D6.out.2.2.2.2.2.1
        have NR := Lib.hid (show gm ≠ R by have := RL.out; omega)
        have HSP := Lib.hid (fun W m s hs (h : Dl w W base R (q + 1) P g d g' d' bs ts) => specStep_any g d g' d' bs ts m s W (by omega) (by omega) hs h.2.2.2.2.1.1.lt h.2.2.2.2.1.2.1.lt h.2.2.2.2.1.1.at h.2.2.2.2.1.2.1.at)
        clear mb pw dw HMV
        go_wp2_with fail
        go_region_with (first | (go_at_call 68; go_must (go_fit (pick_any base R q (ms.length : Int) _ (by omega) (by omega) D7.out.draw.2.1); rintro e w7 ⟨x, rfl, hx, hr7, hg7⟩; have hx7 : x < ms.length := (by have := hx (by omega); omega); have i7 : (x : Int) < (ms.length : Int) := (by omega); have D8 := Lib.hid (D7.out.draw.pick RL.out hg7 hr7); obtain ⟨y0, y1, _, _⟩ := blkCells2 D8.out.2.2.2.1; obtain ⟨y9, _, _, _⟩ := blkCells2 D8.out.2.2.1; have hmv := (OwnMv.at (OwnV.grown (show OwnMv w6.drew wr.heap.size gm cm ms.length ms from M7.out) hg7 (fun e => NR.out (by injection e)))) x hx7; rw [Nat.zero_add] at hmv; have hsh := SH.out x hx7; obtain ⟨⟨m, s⟩, hms⟩ : ∃ y, ms.getD x Z2m = y := ⟨_, rfl⟩; rw [hms] at hmv hsh; obtain ⟨m0, m1⟩ := hmv; obtain ⟨⟨bn, tn⟩, hp⟩ := Option.ne_none_iff_exists'.1 hsh.2; have hst := HSP.out _ m s (Nat.le_trans hsh.1 (by omega)) D8.out; rw [hp] at hst; unfold StepO at hst; simp only at hst; have HST := Lib.hid hst; have HLE := Lib.hid (stepV_len hp); clear hx hr7 hg7 hsh hms hp hst)) | (go_at_call 16; go_must (go_fit HST.out; rintro e w9 ⟨h, f, h', f', rfl, ho1, ho2, hne, hb9⟩; have D9 := Lib.hid (D8.out.step hb9); have O9 : Hid (LnO w9 w7.heap.size h f h' f' bn tn) := Lib.hid ⟨ho1, ho2, hne⟩; obtain ⟨z0, z1, f0, f1⟩ := blkCells2 D9.out.2.2.2.1; obtain ⟨z9, _, _, _⟩ := blkCells2 D9.out.2.2.1; clear ho1 ho2 hne hb9)))
        all_goals
          go_wp2_with fail
          go_roundw
          case rel => exact ⟨ii + 1, q + 1, h, f, h', f', bn, tn, by omega, by go_num, by omega, D9.out.put RL.out O9.out D8.out.2.2.2.1.lt HLE.out.1 HLE.out.2⟩
          case measure => simp [intOf]; omega
      · have t1 := dec_f (show ¬ (0 : Int) < (ms.length : Int) by omega)
        have t1n := dec_f hm0
        go_wp2_with fail
        go_roundw
        case rel => exact ⟨ii + 1, q, g, d, g', d', bs, ts, by omega, by go_num, by omega, D7.out⟩
        case measure => simp [intOf]; omega
    · have hez : ii = z := by omega
      subst hez
      clear c0 c1 HMV
      go_wp2_with fail
      refine (pick_any base R q 40 _ (by omega) (by omega) D6.out.2.1).mono ?_
      rintro e w7 ⟨v, rfl, hv, hr7, hg7⟩
      have D7 := Lib.hid (D6.out.pick RL.out hg7 hr7)
      clear hv hr7 hg7 D6
      obtain ⟨c0, c1, _, _⟩ := blkCells2 D7.out.2.2.2.1
      obtain ⟨z0, z1, f0, f1⟩ := blkCells2 D7.out.2.2.1
      by_cases hv0 : v = 0
      · have t1 := beq_t (show (v : Int) = 0 by omega)
        have t1n : (v == 0) = true := by simpa using hv0
        obtain ⟨s0, s1, s2, e0, e1, e2⟩ := OwnB.facts D7.out.2.2.2.2.1.1 0 (by omega)
        simp only [Nat.zero_mul, Nat.zero_add] at s0 s1 s2 e0 e1 e2
        have i0 : (0 : Int) < (bs.length : Int) := by omega
        have D8 := Lib.hid (D7.out.blk RL.out (2, true, false))
        clear hv0
        go_upto_region 17 with fail
        generalize ((w7.setCell ⟨g, 0, none⟩ (.int .i64 2)).setCell ⟨g, 1, none⟩ (.bool true)).setCell ⟨g, 2, none⟩ (.bool false) = W8 at *
        clear c0 c1 z0 z1 f0 f1 s0 s1 s2 e0 e1 e2
        obtain ⟨c0, c1, _, _⟩ := blkCells2 D8.out.2.2.2.1
        obtain ⟨z0, z1, f0, f1⟩ := blkCells2 D8.out.2.2.1
        rw [List.length_set] at c0
        go_wp2_with fail
        have F := Dl.fin D8.out.core RL.out (.slice (some ⟨g, 0, none⟩) bs.length d) (.slice (some ⟨g', 0, none⟩) ts.length d')
        refine bodyPost_ret (v := .agg #[.slice (some ⟨g, 0, none⟩) bs.length d, .slice (some ⟨g', 0, none⟩) ts.length d']) (by have r0 := F.1; have r1 := F.2.1; simp [results, Try.results61, go_sem, r0, r1]) rfl ⟨_, ts, g, d, g', d', q + 1, by simp only [List.length_set], F.2.2.1, by simpa using hln.1, by omega, by omega, F.2.2.2.1, F.2.2.2.2⟩
      · have t1 := beq_f (show (v : Int) ≠ 0 by omega)
        have t1n : (v == 0) = false := by simpa using hv0
        by_cases hv1 : v = 1
        · have t2 := beq_t (show (v : Int) = 1 by omega)
          have t2n : (v == 1) = true := by simpa using hv1
          have u1 : IntKind.i64.wrap (2 * (bs.length : Int)) = 2 * (bs.length : Int) := IntWalk.i64_in _ (by omega)
          have O7 : Hid (OwnM w7 (w.heap.size + 1) g' d' ts.length ts) := Lib.hid D7.out.2.2.2.2.1.2.1
          clear hv0 hv1
          go_upto_region 17 with (at_builtin; refine wpList_app1i rfl (.tmp 52) (.tmp 57) rfl _ rfl O7.out rfl (by omega) ?_; intro g9 c9 w9 hown9 hg9 hat9; have A9 := Lib.hid (D7.out.app RL.out hg9 hown9); obtain ⟨y0, y1, y2, y3⟩ := blkCells2 A9.out.1; clear hown9 hg9 hat9)
          have A10 := Lib.hid A9.out.2
          clear A9 y0 y1 y2 y3 c0 c1 z0 z1 f0 f1
          generalize w9.setCell ⟨P, 1, none⟩ (.slice (some ⟨g9, 0, none⟩) (ts.length + 1) c9) = W10 at *
          obtain ⟨c0, c1, _, _⟩ := blkCells2 A10.out.1
          obtain ⟨z0, z1, f0, f1⟩ := blkCells2 A10.out.2.2.2.1
          go_wp2_with fail
          have F := Dl.fin A10.out.2 RL.out (.slice (some ⟨g, 0, none⟩) bs.length d) (.slice (some ⟨g9, 0, none⟩) (ts.length + 1) c9)
          refine bodyPost_ret (v := .agg #[.slice (some ⟨g, 0, none⟩) bs.length d, .slice (some ⟨g9, 0, none⟩) (ts.length + 1) c9]) (by have r0 := F.1; have r1 := F.2.1; simp [results, Try.results61, go_sem, r0, r1]) rfl ⟨bs, _, g, d, g9, c9, q + 1, by simp only [List.length_append, List.length_cons, List.length_nil], F.2.2.1, hln.1, by simp; omega, by omega, F.2.2.2.1, F.2.2.2.2⟩
        · have t2 := beq_f (show (v : Int) ≠ 1 by omega)
          have t2n : (v == 1) = false := by simpa using hv1
          by_cases hv2 : v = 2
          · have t3 := beq_t (show (v : Int) = 2 by omega)
            have t3n : (v == 2) = true := by simpa using hv2
            by_cases hts : 0 < ts.length
            · have t4 := dec_t (show (0 : Int) < (ts.length : Int) by omega)
              have t4n := dec_t hts
              have i4 : (0 : Int) < (ts.length : Int) := by omega
              have u1 : IntKind.i64.wrap (2 * (bs.length : Int)) = 2 * (bs.length : Int) := IntWalk.i64_in _ (by omega)
              have u2 : IntKind.i64.wrap (2 * (bs.length : Int) + 1) = 2 * (bs.length : Int) + 1 := IntWalk.i64_in _ (by omega)
              have n0 := World.new_ne w7 _ c0
              have lP7 : P < w7.heap.size := D7.out.2.2.2.1.lt
              have np : g' ≠ P := fun e => D7.out.2.2.2.2.2.2.2.1 e.symm
              clear hv0 hv1 hv2
              go_wp2_with fail
              --@GEN16
              refine wp_region_held_drew (S := (fun w' => w'.cell? ⟨P, 0, none⟩ = some (.slice (some ⟨g, 0, none⟩) bs.length d) ∧ w'.cell? ⟨P, 1, none⟩ = some (.slice (some ⟨g', 0, none⟩) ts.length d'))) (by kernel_rfl) ?_ (fun hHeld0 => ?_)
              · exact ⟨by simpa using c0, by simpa using c1⟩
              refine wpAnyH_take (i := 0) (v := ?_) rfl (by kernel_rfl) (by kernel_rfl) (by kernel_rfl) (fun _ _ _ h => h) (Or.inl ⟨by rfl, ?_⟩) hHeld0 ?_
              rotate_left 1
              · intro w hSw
                try dsimp only at hSw
                go_simp
                first | done | with_reducible rfl
              try simp only [Act.put, List.setIfInBounds_toArray, List.set_cons_zero, List.set_cons_succ]
              refine wpAnyH_take (i := 1) (v := ?_) rfl (by kernel_rfl) (by kernel_rfl) (by kernel_rfl) (fun _ _ _ h => h) (Or.inl ⟨by rfl, ?_⟩) hHeld0 ?_
              rotate_left 1
              · intro w hSw
                try dsimp only at hSw
                go_simp
                first | done | with_reducible rfl
              try simp only [Act.put, List.setIfInBounds_toArray, List.set_cons_zero, List.set_cons_succ]
              refine wpAnyH_take (i := 2) (v := ?_) rfl (by kernel_rfl) (by kernel_rfl) (by kernel_rfl) (fun _ _ _ h => h) (Or.inl ⟨by rfl, ?_⟩) hHeld0 ?_
              rotate_left 1
              · intro w hSw
                try dsimp only at hSw
                go_simp
                first | done | with_reducible rfl
              try simp only [Act.put, List.setIfInBounds_toArray, List.set_cons_zero, List.set_cons_succ]
              refine wpAnyH_take (i := 3) (v := ?_) rfl (by kernel_rfl) (by kernel_rfl) (by kernel_rfl) (fun _ _ _ h => h) (Or.inl ⟨by rfl, ?_⟩) hHeld0 ?_
              rotate_left 1
              · intro w hSw
                try dsimp only at hSw
                go_simp
                first | done | with_reducible rfl
              try simp only [Act.put, List.setIfInBounds_toArray, List.set_cons_zero, List.set_cons_succ]
              refine wpAnyH_take (i := 4) (v := ?_) rfl (by kernel_rfl) (by kernel_rfl) (by kernel_rfl) (fun _ _ _ h => h) (Or.inl ⟨by rfl, ?_⟩) hHeld0 ?_
              rotate_left 1
              · intro w hSw
                try dsimp only at hSw
                go_simp
                first | done | with_reducible rfl
              try simp only [Act.put, List.setIfInBounds_toArray, List.set_cons_zero, List.set_cons_succ]
              refine wpAnyH_take (i := 5) (v := ?_) rfl (by kernel_rfl) (by kernel_rfl) (by kernel_rfl) (fun _ _ _ h => h) (Or.inl ⟨by rfl, ?_⟩) hHeld0 ?_
              rotate_left 1
              · intro w hSw
                try dsimp only at hSw
                go_simp
                first | done | with_reducible rfl
              try simp only [Act.put, List.setIfInBounds_toArray, List.set_cons_zero, List.set_cons_succ]
              refine wpAnyH_take (i := 6) (v := ?_) rfl (by kernel_rfl) (by kernel_rfl) (by kernel_rfl) (fun _ _ _ h => h) (Or.inl ⟨by rfl, ?_⟩) hHeld0 ?_
              rotate_left 1
              · intro w hSw
                try dsimp only at hSw
                go_simp
                first | done | with_reducible rfl
              try simp only [Act.put, List.setIfInBounds_toArray, List.set_cons_zero, List.set_cons_succ]
              refine wpAnyH_take (i := 8) (v := ?_) rfl (by kernel_rfl) (by kernel_rfl) (by kernel_rfl) (fun _ _ _ h => h) (Or.inl ⟨by rfl, ?_⟩) hHeld0 ?_
              rotate_left 1
              · intro w hSw
                try dsimp only at hSw
                go_simp
                first | done | with_reducible rfl
              try simp only [Act.put, List.setIfInBounds_toArray, List.set_cons_zero, List.set_cons_succ]
              refine wpAnyH_ready (rs := [7, 9]) (by kernel_rfl) (by simp) ?_
              refine AllReadyH.cons rfl (fun K hK => ?_) ?_
              · go_simp
                refine hK.out _ _ ?_ (fun hHeld1 => ?_)
                · have hA := (dlA (o := .cells #[.int .i64 (-1), .int .i64 (2 * (bs.length : Int) + 1), .int .i64 1] 3) (dlD D7.out))
                  obtain ⟨x0, x1, _, _⟩ := blkCells2 hA.2.2.2.1
                  exact ⟨x0, x1⟩
                clear hK K hHeld0
                try simp only [Act.put, List.setIfInBounds_toArray, List.set_cons_zero, List.set_cons_succ]
                refine wpAnyH_ready (rs := [9]) (by kernel_rfl) (by simp) ?_
                refine AllReadyH.cons rfl (fun K hK => ?_) AllReadyH.nil
                go_simp
                refine (pick_any base R (q + 1) 3 _ (by omega) (by omega) (rdA (o := .cells #[.int .i64 (-1), .int .i64 (2 * (bs.length : Int) + 1), .int .i64 1] 3) (rdD D7.out.2.1))).mono ?_
                rintro e w8 ⟨x, rfl, hx, hr8, hg8⟩
                have hx3 : x < 3 := by have := hx (by omega); omega
                have i8 : (x : Int) < 3 := by omega
                have D8 := Lib.hid (Dl.pick (dlA (o := .cells #[.int .i64 (-1), .int .i64 (2 * (bs.length : Int) + 1), .int .i64 1] 3) (dlD D7.out)) RL.out hg8 hr8)
                obtain ⟨y0, y1, _, _⟩ := blkCells2 D8.out.2.2.2.1
                have q0 := D8.out.2.2.2.2.1.2.1.at.at0 hts
                have q1 := OwnV.frozen D8.out.2.2.2.2.1.2.1 0
                obtain ⟨uu, hu⟩ := three_at (-1) (2 * (bs.length : Int) + 1) 1 x hx3
                have kb := Lib.hid (blkG hg8 (Blk.new w7.drew 3 #[.int .i64 (-1), .int .i64 (2 * (bs.length : Int) + 1), .int .i64 1]) (by have := RL.out; have := D7.out.2.2.1.lt; show w7.drew.heap.size ≠ R; simp; omega))
                have kc : w8.cell? ⟨w7.heap.size, x, none⟩ = some (.int .i64 uu) := (kb.out.cell x).trans (by simpa using hu)
                clear hx hr8 hg8 hu
                go_wp2_with fail
                refine hK.out _ _ ?_ (fun hHeld2 => ?_)
                · exact ⟨y0, y1⟩
                clear hK K hHeld1
                try simp only [Act.put, List.setIfInBounds_toArray, List.set_cons_zero, List.set_cons_succ]
                refine wpAnyH_take (i := 10) (v := ?_) rfl (by kernel_rfl) (by kernel_rfl) (by kernel_rfl) (fun _ _ _ h => h) (Or.inl ⟨by rfl, ?_⟩) hHeld2 ?_
                rotate_left 1
                · intro w hSw
                  try dsimp only at hSw
                  go_simp
                  first | done | with_reducible rfl
                try simp only [Act.put, List.setIfInBounds_toArray, List.set_cons_zero, List.set_cons_succ]
                refine wpAnyH_ready (rs := [11]) (by kernel_rfl) (by simp) ?_
                refine AllReadyH.cons rfl (fun K hK => ?_) AllReadyH.nil
                go_simp
                refine hK.out _ _ ?_ (fun hHeld3 => ?_)
                · exact ⟨y0, y1⟩
                clear hK K hHeld2
                try simp only [Act.put, List.setIfInBounds_toArray, List.set_cons_zero, List.set_cons_succ]
                refine wpAnyH_take (i := 12) (v := ?_) rfl (by kernel_rfl) (by kernel_rfl) (by kernel_rfl) (fun _ _ _ h => h) (Or.inl ⟨by rfl, ?_⟩) hHeld3 ?_
                rotate_left 1
                · intro w hSw
                  try dsimp only at hSw
                  go_simp
                  first | done | with_reducible rfl
                try simp only [Act.put, List.setIfInBounds_toArray, List.set_cons_zero, List.set_cons_succ]
                refine wpAnyH_ready (rs := [13]) (by kernel_rfl) (by simp) ?_
                refine AllReadyH.cons rfl (fun K hK => ?_) AllReadyH.nil
                go_simp
                refine hK.out _ _ ?_ (fun hHeld4 => ?_)
                · have hA := (Dl.train D8.out RL.out 0 uu)
                  obtain ⟨x0, x1, _, _⟩ := blkCells2 hA.2.2.2.1
                  rw [List.length_set] at x1
                  exact ⟨x0, x1⟩
                clear hK K hHeld3
                try simp only [Act.put, List.setIfInBounds_toArray, List.set_cons_zero, List.set_cons_succ]
                refine wpAnyH_done (by kernel_rfl) ?_ _
                have DE := Lib.hid (Dl.train D8.out RL.out 0 uu)
                clear q0 q1 kc y0 y1 c0 c1 z0 z1 f0 f1
                try clear q2 q3
                generalize w8.setCell ⟨g', 0, none⟩ (.int .i64 uu) = W9 at *
                obtain ⟨a0, a1, _, _⟩ := blkCells2 DE.out.2.2.2.1
                obtain ⟨a2, a3, a4, a5⟩ := blkCells2 DE.out.2.2.1
                rw [List.length_set] at a1
                go_wp2_with fail
                have F := Dl.fin DE.out.core RL.out (.slice (some ⟨g, 0, none⟩) bs.length d) (.slice (some ⟨g', 0, none⟩) ts.length d')
                exact bodyPost_ret (v := .agg #[.slice (some ⟨g, 0, none⟩) bs.length d, .slice (some ⟨g', 0, none⟩) ts.length d']) (by have r0 := F.1; have r1 := F.2.1; simp [results, Try.results61, go_sem, r0, r1]) rfl ⟨bs, _, g, d, g', d', q + 1 + 1, by simp only [List.length_set], F.2.2.1, hln.1, by simp; omega, by omega, F.2.2.2.1, F.2.2.2.2⟩
              refine AllReadyH.cons rfl (fun K hK => ?_) ?_
              · go_simp
                refine (pick_any base R (q + 1) 3 _ (by omega) (by omega) (rdD D7.out.2.1)).mono ?_
                rintro e w8 ⟨x, rfl, hx, hr8, hg8⟩
                have hx3 : x < 3 := by have := hx (by omega); omega
                have i8 : (x : Int) < 3 := by omega
                have D8 := Lib.hid (Dl.pick (dlD D7.out) RL.out hg8 hr8)
                obtain ⟨y0, y1, _, _⟩ := blkCells2 D8.out.2.2.2.1
                have q0 := D8.out.2.2.2.2.1.2.1.at.at0 hts
                have q1 := OwnV.frozen D8.out.2.2.2.2.1.2.1 0
                obtain ⟨uu, hu⟩ := three_at (-1) (2 * (bs.length : Int) + 1) 1 x hx3
                have D9 := Lib.hid (dlA (o := .cells #[.int .i64 (-1), .int .i64 (2 * (bs.length : Int) + 1), .int .i64 1] 3) D8.out)
                have hu2 : (#[Value.int .i64 (-1), .int .i64 (2 * (bs.length : Int) + 1), .int .i64 1] : Array Value)[x]? = some (.int .i64 uu) := by simpa using hu
                have kc : (w8.alloc (.cells #[.int .i64 (-1), .int .i64 (2 * (bs.length : Int) + 1), .int .i64 1] 3)).cell? ⟨w8.heap.size, x, none⟩ = some (.int .i64 uu) := (World.cell?_alloc_mark w8 _ _ _ x).trans hu2
                have q2 := D9.out.2.2.2.2.1.2.1.at.at0 hts
                have q3 := OwnV.frozen D9.out.2.2.2.2.1.2.1 0
                clear hx hr8 hg8 hu hu2
                go_wp2_with fail
                refine hK.out _ _ ?_ (fun hHeld5 => ?_)
                · exact ⟨y0, y1⟩
                clear hK K hHeld0
                try simp only [Act.put, List.setIfInBounds_toArray, List.set_cons_zero, List.set_cons_succ]
                refine wpAnyH_ready (rs := [7]) (by kernel_rfl) (by simp) ?_
                refine AllReadyH.cons rfl (fun K hK => ?_) AllReadyH.nil
                go_simp
                refine hK.out _ _ ?_ (fun hHeld6 => ?_)
                · have hA := D9.out
                  obtain ⟨x0, x1, _, _⟩ := blkCells2 hA.2.2.2.1
                  exact ⟨x0, x1⟩
                clear hK K hHeld5
                try simp only [Act.put, List.setIfInBounds_toArray, List.set_cons_zero, List.set_cons_succ]
                refine wpAnyH_take (i := 10) (v := ?_) rfl (by kernel_rfl) (by kernel_rfl) (by kernel_rfl) (fun _ _ _ h => h) (Or.inl ⟨by rfl, ?_⟩) hHeld6 ?_
                rotate_left 1
                · intro w hSw
                  try dsimp only at hSw
                  go_simp
                  first | done | with_reducible rfl
                try simp only [Act.put, List.setIfInBounds_toArray, List.set_cons_zero, List.set_cons_succ]
                refine wpAnyH_ready (rs := [11]) (by kernel_rfl) (by simp) ?_
                refine AllReadyH.cons rfl (fun K hK => ?_) AllReadyH.nil
                go_simp
                refine hK.out _ _ ?_ (fun hHeld7 => ?_)
                · have hA := D9.out
                  obtain ⟨x0, x1, _, _⟩ := blkCells2 hA.2.2.2.1
                  exact ⟨x0, x1⟩
                clear hK K hHeld6
                try simp only [Act.put, List.setIfInBounds_toArray, List.set_cons_zero, List.set_cons_succ]
                refine wpAnyH_take (i := 12) (v := ?_) rfl (by kernel_rfl) (by kernel_rfl) (by kernel_rfl) (fun _ _ _ h => h) (Or.inl ⟨by rfl, ?_⟩) hHeld7 ?_
                rotate_left 1
                · intro w hSw
                  try dsimp only at hSw
                  go_simp
                  first | done | with_reducible rfl
                try simp only [Act.put, List.setIfInBounds_toArray, List.set_cons_zero, List.set_cons_succ]
                refine wpAnyH_ready (rs := [13]) (by kernel_rfl) (by simp) ?_
                refine AllReadyH.cons rfl (fun K hK => ?_) AllReadyH.nil
                go_simp
                refine hK.out _ _ ?_ (fun hHeld8 => ?_)
                · have hA := (Dl.train D9.out RL.out 0 uu)
                  obtain ⟨x0, x1, _, _⟩ := blkCells2 hA.2.2.2.1
                  rw [List.length_set] at x1
                  exact ⟨x0, x1⟩
                clear hK K hHeld7
                try simp only [Act.put, List.setIfInBounds_toArray, List.set_cons_zero, List.set_cons_succ]
                refine wpAnyH_done (by kernel_rfl) ?_ _
                have DE := Lib.hid (Dl.train D9.out RL.out 0 uu)
                clear q0 q1 kc y0 y1 c0 c1 z0 z1 f0 f1
                try clear q2 q3
                generalize (w8.alloc (.cells #[.int .i64 (-1), .int .i64 (2 * (bs.length : Int) + 1), .int .i64 1] 3)).setCell ⟨g', 0, none⟩ (.int .i64 uu) = W9 at *
                obtain ⟨a0, a1, _, _⟩ := blkCells2 DE.out.2.2.2.1
                obtain ⟨a2, a3, a4, a5⟩ := blkCells2 DE.out.2.2.1
                rw [List.length_set] at a1
                go_wp2_with fail
                have F := Dl.fin DE.out.core RL.out (.slice (some ⟨g, 0, none⟩) bs.length d) (.slice (some ⟨g', 0, none⟩) ts.length d')
                exact bodyPost_ret (v := .agg #[.slice (some ⟨g, 0, none⟩) bs.length d, .slice (some ⟨g', 0, none⟩) ts.length d']) (by have r0 := F.1; have r1 := F.2.1; simp [results, Try.results61, go_sem, r0, r1]) rfl ⟨bs, _, g, d, g', d', q + 1 + 1, by simp only [List.length_set], F.2.2.1, hln.1, by simp; omega, by omega, F.2.2.2.1, F.2.2.2.2⟩
              exact AllReadyH.nil
              --@GEN16X
            · have t4 := dec_f (show ¬ (0 : Int) < (ts.length : Int) by omega)
              have t4n := dec_f hts
              clear hv0 hv1 hv2 hts
              go_wp2_with fail
              have F := Dl.fin D7.out.core RL.out (.slice (some ⟨g, 0, none⟩) bs.length d) (.slice (some ⟨g', 0, none⟩) ts.length d')
              refine bodyPost_ret (v := .agg #[.slice (some ⟨g, 0, none⟩) bs.length d, .slice (some ⟨g', 0, none⟩) ts.length d']) (by have r0 := F.1; have r1 := F.2.1; simp [results, Try.results61, go_sem, r0, r1]) rfl ⟨bs, ts, g, d, g', d', q + 1, rfl, F.2.2.1, hln.1, by omega, by omega, F.2.2.2.1, F.2.2.2.2⟩
          · have t3 := beq_f (show (v : Int) ≠ 2 by omega)
            have t3n : (v == 2) = false := by simpa using hv2
            clear hv0 hv1 hv2
            go_wp2_with fail
            have F := Dl.fin D7.out.core RL.out (.slice (some ⟨g, 0, none⟩) bs.length d) (.slice (some ⟨g', 0, none⟩) ts.length d')
            refine bodyPost_ret (v := .agg #[.slice (some ⟨g, 0, none⟩) bs.length d, .slice (some ⟨g', 0, none⟩) ts.length d']) (by have r0 := F.1; have r1 := F.2.1; simp [results, Try.results61, go_sem, r0, r1]) rfl ⟨bs, ts, g, d, g', d', q + 1, rfl, F.2.2.1, hln.1, by omega, by omega, F.2.2.2.1, F.2.2.2.2⟩
end Go.Proofs.Ytmgakfbchhefcaa
