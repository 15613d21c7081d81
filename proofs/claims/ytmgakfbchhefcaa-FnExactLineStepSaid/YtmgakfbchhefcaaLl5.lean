/-
  The law FnExactLineStep, walked call by call (printed by gen_ll5.py). No condition.
-/
import Derived.Test.YtmgakfbchhefcaaLn20
import Derived.Test.YtmgakfbchhefcaaLn15
import Derived.Deep.DeepCutAuto
namespace Go.Proofs.Ytmgakfbchhefcaa
open Go.RowKit
set_option linter.unusedVariables false
set_option linter.unusedSimpArgs false

/-- The argument's boxes; nothing that existed has changed. -/
def Lw (w W : World) (A : Option Addr) (c : Nat) (bs : List BV) (B : Option Addr) (d : Nat) (ts : List Int) (m : Int) (s : ByteArray) : Prop :=
  Below w.heap.size w W ∧ RdBl w A bs ∧ RdInts w B ts ∧ Blk W w.heap.size 25 #[.slice A bs.length c, .slice B ts.length d] ∧ Blk W (w.heap.size + 1) 27 #[.int .i64 m, .string s]
theorem Lw.step {w W W' : World} {A B : Option Addr} {c d : Nat} {bs : List BV} {ts : List Int} {m : Int} {s : ByteArray} (h : Lw w W A c bs B d ts m s) (k : Below W.heap.size W W') : Lw w W' A c bs B d ts m s := ⟨below_to h.1 k h.1.size, h.2.1, h.2.2.1, h.2.2.2.1.below k h.2.2.2.1.lt, h.2.2.2.2.below k h.2.2.2.2.lt⟩
theorem Lw.grown {w W W' : World} {A B : Option Addr} {c d x : Nat} {bs : List BV} {ts : List Int} {m : Int} {s : ByteArray} (h : Lw w W A c bs B d ts m s) (k : W.grownBy W' (some x)) (hx : w.heap.size + 2 ≤ x) : Lw w W' A c bs B d ts m s := by
  obtain ⟨h1, h2, h3, h4, h5⟩ := h
  have l5 := h5.lt
  exact ⟨below_app h1 k (by omega), h2, h3, h4.grown k (by intro e; injection e; omega), h5.grown k (by intro e; injection e; omega)⟩
theorem Lw.cells {w W : World} {A B : Option Addr} {c d : Nat} {bs : List BV} {ts : List Int} {m : Int} {s : ByteArray} (h : Lw w W A c bs B d ts m s) : W.cell? ⟨w.heap.size, 0, none⟩ = some (.slice A bs.length c) ∧ W.cell? ⟨w.heap.size, 1, none⟩ = some (.slice B ts.length d) ∧ W.cell? ⟨w.heap.size + 1, 0, none⟩ = some (.int .i64 m) ∧ W.cell? ⟨w.heap.size + 1, 1, none⟩ = some (.string s) :=
  ⟨(blkCells2 h.2.2.2.1).1, (blkCells2 h.2.2.2.1).2.1, (blkCells2 h.2.2.2.2).1, (blkCells2 h.2.2.2.2).2.1⟩
/-- A line of the region's own, in its box. -/
def Cq (W wx : World) (Z u r u' r' : Nat) (bs : List BV) (ts : List Int) : Prop :=
  Below W.heap.size W wx ∧ Blk wx Z 32 #[.slice (some ⟨u, 0, none⟩) bs.length r, .slice (some ⟨u', 0, none⟩) ts.length r'] ∧ LnO wx W.heap.size u r u' r' bs ts
theorem cq_a {W wd : World} {Z u r u' r' : Nat} {bs : List BV} {ts : List Int} (B : Below W.heap.size W wd) (K : Blk wd Z 32 #[.slice none 0 0, .slice none 0 0]) (O : LnO wd W.heap.size u r u' r' bs ts) (hZ : W.heap.size ≤ Z) :
    Cq W ((wd.setCell ⟨Z, 0, none⟩ (.slice (some ⟨u, 0, none⟩) bs.length r)).setCell ⟨Z, 1, none⟩ (.slice (some ⟨u', 0, none⟩) ts.length r')) Z u r u' r' bs ts := by
  have n1 := blk_own_ne K O.1 (by decide)
  have n2 := blk_own_ne K O.2.1 (by decide)
  exact ⟨(B.setCell hZ _).setCell hZ _, by simpa using (K.set_ 0 (.slice (some ⟨u, 0, none⟩) bs.length r)).set_ 1 (.slice (some ⟨u', 0, none⟩) ts.length r'), (O.far (p := ⟨Z, 0, none⟩) (by show u ≠ Z; omega) (by show u' ≠ Z; omega) _).far (p := ⟨Z, 1, none⟩) (by show u ≠ Z; omega) (by show u' ≠ Z; omega) _⟩
theorem cq_b {W wd : World} {u r u' r' : Nat} {bs : List BV} {ts : List Int} (B : Below W.heap.size W wd) (O : LnO wd W.heap.size u r u' r' bs ts) :
    Cq W (wd.alloc (.cells #[.slice (some ⟨u, 0, none⟩) bs.length r, .slice (some ⟨u', 0, none⟩) ts.length r'] 32)) wd.heap.size u r u' r' bs ts := ⟨below_new' B _, Blk.new _ _ _, O.below (below_new _ _)⟩
theorem cn_a {W wd : World} {Z : Nat} (B : Below W.heap.size W wd) (K : Blk wd Z 32 #[.slice none 0 0, .slice none 0 0]) (hZ : W.heap.size ≤ Z) :
    Below W.heap.size W ((wd.setCell ⟨Z, 0, none⟩ (.slice none 0 0)).setCell ⟨Z, 1, none⟩ (.slice none 0 0)) ∧ Blk ((wd.setCell ⟨Z, 0, none⟩ (.slice none 0 0)).setCell ⟨Z, 1, none⟩ (.slice none 0 0)) Z 32 #[.slice none 0 0, .slice none 0 0] :=
  ⟨(B.setCell hZ _).setCell hZ _, by simpa using (K.set_ 0 (.slice none 0 0)).set_ 1 (.slice none 0 0)⟩
section
variable {W W1 W2 : World} {B Bx u r u' r' x d x' d' Z : Nat} {bs bx : List BV} {ts tx : List Int} {cs : Array Value}
theorem LnO.mark (o : LnO W B u r u' r' bs ts) (y : LnO W Bx x d x' d' bx tx) (n : u ≠ x) (n' : u' ≠ x') (k1 : W.grownBy W1 (some x)) (k2 : W1.grownBy W2 (some x')) : LnO W2 B u r u' r' bs ts := by
  have m1 := own_own_ne o.1 y.2.1 (by decide)
  have m2 := own_own_ne o.2.1 y.1 (by decide)
  exact ⟨OwnV.grown (OwnV.grown o.1 k1 (by intro e; injection e; omega)) k2 (by intro e; injection e; omega), OwnV.grown (OwnV.grown o.2.1 k1 (by intro e; injection e; omega)) k2 (by intro e; injection e; omega), o.2.2⟩
theorem blk_mark (b : Blk W Z 32 cs) (y : LnO W Bx x d x' d' bx tx) (k1 : W.grownBy W1 (some x)) (k2 : W1.grownBy W2 (some x')) : Blk W2 Z 32 cs := by
  have m1 := blk_own_ne b y.1 (by decide)
  have m2 := blk_own_ne b y.2.1 (by decide)
  exact (b.grown k1 (by intro e; injection e; omega)).grown k2 (by intro e; injection e; omega)
theorem Lw.mark {w : World} {A B : Option Addr} {c e : Nat} {bs : List BV} {ts : List Int} {m : Int} {s : ByteArray} (h : Lw w W A c bs B e ts m s) (y : LnO W (w.heap.size + 2) x d x' d' bx tx) (k1 : W.grownBy W1 (some x)) (k2 : W1.grownBy W2 (some x')) : Lw w W2 A c bs B e ts m s :=
  (h.grown k1 (OwnV.le y.1)).grown k2 (OwnV.le y.2.1)
end
theorem markLine1 (base g d g' d' : Nat) (bs : List BV) (ts : List Int) (w : World) (hn : bs.length ≤ 1048576) (hm : ts.length ≤ 1048576) (ho : OwnB w base g d bs) (ho' : Own w base g' d' ts) (hne : g ≠ g') :
    Calls Try.prog 21 #[.agg #[.slice (some ⟨g, 0, none⟩) bs.length d, .slice (some ⟨g', 0, none⟩) ts.length d'], .int .i64 1] w (MarkedL w base g d g' d' bs.length ts.length 1) := markLine_any base g d g' d' 1 bs ts w hn hm (by omega) ho ho' hne
theorem heldLine1 (g d g' d' n m : Nat) (w : World) (hn : n ≤ 1048576) (hm : m ≤ 1048576) (hb : g < w.heap.size) (hb' : g' < w.heap.size) (ho : AtBl w g 0 (mksB 1 n)) (ho' : AtInts w g' 0 (marks ((1 + 3 * n : Nat) : Int) m)) :
    Calls Try.prog 22 #[.agg #[.slice (some ⟨g, 0, none⟩) n d, .slice (some ⟨g', 0, none⟩) m d'], .int .i64 1] w fun e w' => e = .returned (.int .i64 ((1 + 3 * n + m : Nat) : Int)) ∧ Below w.heap.size w w' := heldLine_any g d g' d' 1 n m w hn hm (by omega) hb hb' ho ho'
theorem stepV_len2 {bs bs' : List BV} {ts ts' : List Int} {m : Int} {s : ByteArray} (h : stepV bs ts m s = some (bs', ts')) : bs'.length = bs.length ∧ ts'.length = ts.length := by
  unfold stepV stepI at h
  repeat' split at h
  all_goals first | (cases h; done) | exact stepU_len h
set_option maxRecDepth 100000 in
set_option maxHeartbeats 6400000 in
theorem law_ExactLineStep (A : Option Addr) (c : Nat) (bs : List BV) (B : Option Addr) (d : Nat) (ts : List Int) (m : Int) (s : ByteArray) (w : World) (hq : ArgBl w A bs) (hq' : ArgInts w B ts) (hm : -9223372036854775808 ≤ m ∧ m ≤ 9223372036854775807) (hs : s.size ≤ 9223372036854775807) :
    Calls Try.prog 3 #[.agg #[.slice A bs.length c, .slice B ts.length d], .agg #[.int .i64 m, .string s]] w fun e w' => e = .returned (.bool true) ∧ Below w.heap.size w w' := by
  obtain ⟨hr, hn⟩ := hq
  obtain ⟨hr', _, hmm⟩ := hq'
  have hsz := fun w => szLine_any A B c d bs.length ts.length w hn hmm
  have S1 : Hid (Lw w ((w.alloc (.cells #[.slice A bs.length c, .slice B ts.length d] 25)).alloc (.cells #[.int .i64 m, .string s] 27)) A c bs B d ts m s) := Lib.hid ⟨below_new' (below_new w _) _, hr, hr', (Blk.new _ _ _).alloc _, by simpa using Blk.new (w.alloc (.cells #[.slice A bs.length c, .slice B ts.length d] 25)) 27 #[.int .i64 m, .string s]⟩
  unfold szL at hsz
  clear hr hr'
  by_cases hbig : bs.length + ts.length ≤ 1048576
  · rw [if_pos hbig] at hsz
    have t0 := dec_f (show ¬ (1048576 : Int) - bs.length - ts.length < 0 by omega)
    have hsm := fun w => szMove_any m s ((1048576 : Int) - bs.length - ts.length) w hs (by omega)
    have HSZ := Lib.hid hsz
    by_cases hs1 : (s.size : Int) ≤ (1048576 : Int) - bs.length - ts.length
    · rw [if_pos hs1] at hsm
      have t1 := dec_f (show ¬ (1048576 : Int) - bs.length - ts.length - s.size < 0 by omega)
      have HSM := Lib.hid hsm
      have hs8 : s.size ≤ 1048576 := by omega
      have hto := fun (W : World) (h : Lw w W A c bs B d ts m s) => toLine_any A B c d bs ts W (by omega) (by omega) (h.2.1.below h.1) (h.2.2.1.below h.1)
      have hsp := fun (W : World) (g d g' d' : Nat) (h : LnB W g g' bs ts) => specStep_any g d g' d' bs ts m s W (by omega) (by omega) hs h.2.2.1 h.2.2.2 h.1 h.2.1
      have him := fun (W : World) (g d g' d' : Nat) (h : LnB W g g' bs ts) => implStep_any g d g' d' bs ts m s W (by omega) (by omega) hs h.2.2.1 h.2.2.2 h.1 h.2.1
      have heq := fun (bq : List BV) (tq : List Int) (hb5 : bq.length ≤ 1048576) (ht5 : tq.length ≤ 1048576) (W : World) (g d g' d' k e k' e' : Nat) (h : LnB W g g' bq tq) (j : LnB W k k' bq tq) => eqLine_same g d k e g' d' k' e' bq tq W hb5 ht5 h.2.2.1 j.2.2.1 h.2.2.2 j.2.2.2 h.1 j.1 h.2.1 j.2.1
      have HTM := Lib.hid (fun w => toMove_any m s w)
      have HTO := Lib.hid hto
      have HEQ := Lib.hid heq
      obtain ⟨o, ho⟩ : ∃ o, stepV bs ts m s = o := ⟨_, rfl⟩
      rw [ho] at hsp him
      cases o with
      | none =>
        unfold StepO at hsp him
        simp only at hsp him
        have HSP := Lib.hid hsp
        have HIM := Lib.hid him
        clear hsz hsm hto hsp him heq ho
        go_enter Try.func3, Try.ntmps3
        go_wp2_with fail
        refine (HSZ.out _).mono ?_
        rintro e w2 ⟨rfl, hb2⟩
        have S2 := Lib.hid (S1.out.step hb2)
        obtain ⟨y0, y1, y2, y3⟩ := S2.out.cells
        clear hb2 S1
        go_wp2_with fail
        refine (HSM.out _).mono ?_
        rintro e w3 ⟨rfl, hb3⟩
        have S := Lib.hid (S2.out.step hb3)
        clear hb3 S2 y0 y1 y2 y3
        obtain ⟨y0, y1, y2, y3⟩ := S.out.cells
        have n0 := World.new_ne w3 _ y0
        have n1 := World.new_ne w3 _ y1
        have n2 := World.new_ne w3 _ y2
        have n3 := World.new_ne w3 _ y3
        go_upto_region 8 with fail
        go_cut [6, 7] (fun a6 a7 wx => ∃ Z : Nat, a6 = .pointer (some ⟨Z, 0, none⟩) ∧ a7 = .bool false ∧ Below w3.heap.size w3 wx ∧ Blk wx Z 32 #[.slice none 0 0, .slice none 0 0])
        case first =>
          go_region_held3 (fun w' => w'.cell? ⟨w.heap.size, 0, none⟩ = some (.slice A bs.length c) ∧ w'.cell? ⟨w.heap.size, 1, none⟩ = some (.slice B ts.length d) ∧ w'.cell? ⟨w.heap.size + 1, 0, none⟩ = some (.int .i64 m) ∧ w'.cell? ⟨w.heap.size + 1, 1, none⟩ = some (.string s)) (go_keep) (first | (go_at_call 17; go_must (go_fit (HTO.out _ (by first | exact S.out.step (Below.refl _ _).drew | exact (S.out.step (below_new _ _)).step (Below.refl _ _).drew)); rintro e wa ⟨xa, da, xa', da', rfl, hoa, hoa', hnea, hba⟩; have OA : Hid (LnO wa w3.heap.size xa da xa' da' bs ts) := Lib.hid ⟨OwnV.mono hoa (by have h1 := hoa.le; simp -failIfUnchanged at h1; omega), OwnV.mono hoa' (by have h1 := hoa'.le; simp -failIfUnchanged at h1; omega), hnea⟩; (first | (have BA : Hid (Below w3.heap.size w3 wa) := Lib.hid ((Below.refl _ _).drew.trans hba)) | (have BA : Hid (Below w3.heap.size w3 wa) := Lib.hid (below_to (below_new w3 _).drew hba (by simp)); have KA := Lib.hid ((Blk.new w3 _ _).drew.below hba (by simp)))); have SA := Lib.hid (S.out.step BA.out); obtain ⟨y0, y1, y2, y3⟩ := SA.out.cells; have n0 := World.new_ne wa _ y0; have n1 := World.new_ne wa _ y1; have n2 := World.new_ne wa _ y2; have n3 := World.new_ne wa _ y3; clear hba hoa hoa' hnea)) | (go_at_call 18; go_must (go_fit (HTM.out _); rintro e wb ⟨rfl, hbb⟩; (first | (have BB : Hid (Below w3.heap.size w3 wb) := Lib.hid (below_to BA.out hbb BA.out.size); have OB := Lib.hid (OA.out.below hbb)) | (have BB : Hid (Below w3.heap.size w3 wb) := Lib.hid (below_to (below_new' BA.out _) hbb (by have := BA.out.size; simp; omega)); have OB := Lib.hid ((OA.out.below (below_new wa _)).below hbb))); (first | (have KB := Lib.hid (KA.out.below hbb KA.out.lt)) | (have KB := Lib.hid ((Blk.new wa _ _).below hbb (by simp))) | skip); have SB := Lib.hid (S.out.step BB.out); obtain ⟨y0, y1, y2, y3⟩ := SB.out.cells; have n0 := World.new_ne wb _ y0; have n1 := World.new_ne wb _ y1; have n2 := World.new_ne wb _ y2; have n3 := World.new_ne wb _ y3; clear hbb)) | (go_at_call 16; go_must (go_fit (HSP.out _ xa da xa' da' (by first | exact LnB.own OB.out.1 OB.out.2.1 | exact (LnB.own OB.out.1 OB.out.2.1).step (below_new _ _))); rintro e wd ⟨rfl, hbd⟩; (first | (have BD : Hid (Below w3.heap.size w3 wd) := Lib.hid (below_to BB.out hbd BB.out.size)) | (have BD : Hid (Below w3.heap.size w3 wd) := Lib.hid (below_to (below_new' BB.out _) hbd (by have := BB.out.size; simp; omega)))); (first | (have KD := Lib.hid (KB.out.below hbd KB.out.lt); obtain ⟨e0, e1, e2, e3⟩ := blkCells2 KD.out) | (have KD := Lib.hid ((Blk.new wb _ _).below hbd (by simp)); obtain ⟨e0, e1, e2, e3⟩ := blkCells2 KD.out) | skip); have SD := Lib.hid (S.out.step BD.out); obtain ⟨y0, y1, y2, y3⟩ := SD.out.cells; clear hbd)))
          all_goals
            go_wp2_with fail
            go_meet
            first
              | exact ⟨_, rfl, rfl, cn_a BD.out KD.out (by first | exact Nat.le_refl _ | exact BA.out.size | exact BB.out.size)⟩
              | exact ⟨_, rfl, rfl, below_new' BD.out _, Blk.new _ _ _⟩
        obtain ⟨Z, rfl, rfl, hbz, hkz⟩ := hcut
        generalize wc = w21 at *
        have S2 : Hid (Lw w w21 A c bs B d ts m s) := Lib.hid (S.out.step hbz)
        clear S
        have S := S2
        clear S2
        have KZ : Hid (Blk w21 Z 32 #[.slice none 0 0, .slice none 0 0]) := Lib.hid hkz
        clear hbz hkz
        clear y0 y1 y2 y3 n0 n1 n2 n3
        obtain ⟨y0, y1, y2, y3⟩ := S.out.cells
        go_wp2_with fail
        refine (HTO.out _ S.out).mono ?_
        rintro e w5 ⟨x, dx, x', dx', rfl, hox, hox', hnex, hb⟩
        have hsz2 : w.heap.size + 2 ≤ w21.heap.size := by have := S.out.2.2.2.2.lt; omega
        have S2 : Hid (Lw w w5 A c bs B d ts m s) := Lib.hid (S.out.step hb)
        have KZ2 : Hid (Blk w5 Z 32 #[.slice none 0 0, .slice none 0 0]) := Lib.hid (KZ.out.below hb KZ.out.lt)
        clear S
        clear KZ
        have S := S2
        clear S2
        have KZ := KZ2
        clear KZ2
        have OX : Hid (LnO w5 (w.heap.size + 2) x dx x' dx' bs ts) := Lib.hid ⟨OwnV.mono hox (Nat.le_trans hsz2 hox.le), OwnV.mono hox' (Nat.le_trans hsz2 hox'.le), hnex⟩
        have hb2 := below_new w5 (.cells #[.slice (some ⟨x, 0, none⟩) bs.length dx, .slice (some ⟨x', 0, none⟩) ts.length dx'] 32)
        have KX2 := Lib.hid (Blk.new w5 32 #[.slice (some ⟨x, 0, none⟩) bs.length dx, .slice (some ⟨x', 0, none⟩) ts.length dx'])
        clear hb hox hox' hnex hsz2 y0 y1 y2 y3
        go_upto_region 10 with fail
        have S2 : Hid (Lw w (w5.alloc (.cells #[.slice (some ⟨x, 0, none⟩) bs.length dx, .slice (some ⟨x', 0, none⟩) ts.length dx'] 32)) A c bs B d ts m s) := Lib.hid (S.out.step hb2)
        have KZ2 : Hid (Blk (w5.alloc (.cells #[.slice (some ⟨x, 0, none⟩) bs.length dx, .slice (some ⟨x', 0, none⟩) ts.length dx'] 32)) Z 32 #[.slice none 0 0, .slice none 0 0]) := Lib.hid (KZ.out.below hb2 KZ.out.lt)
        have OX2 : Hid (LnO (w5.alloc (.cells #[.slice (some ⟨x, 0, none⟩) bs.length dx, .slice (some ⟨x', 0, none⟩) ts.length dx'] 32)) (w.heap.size + 2) x dx x' dx' bs ts) := Lib.hid (OX.out.below hb2)
        clear S
        clear KZ
        clear OX
        have S := S2
        clear S2
        have KZ := KZ2
        clear KZ2
        have OX := OX2
        clear OX2
        clear hb2
        generalize w5.alloc (.cells #[.slice (some ⟨x, 0, none⟩) bs.length dx, .slice (some ⟨x', 0, none⟩) ts.length dx'] 32) = w6 at *
        generalize w5.heap.size = X at *
        have KX := KX2
        clear KX2
        obtain ⟨v0, v1, _, _⟩ := blkCells2 KX.out
        have p0 := World.new_ne w6 _ v0
        have p1 := World.new_ne w6 _ v1
        obtain ⟨y0, y1, y2, y3⟩ := S.out.cells
        have n0 := World.new_ne w6 _ y0
        have n1 := World.new_ne w6 _ y1
        have n2 := World.new_ne w6 _ y2
        have n3 := World.new_ne w6 _ y3
        go_upto_region 10 with fail
        go_cut [9, 10] (fun a9 a10 wx => ∃ Z : Nat, a9 = .pointer (some ⟨Z, 0, none⟩) ∧ a10 = .bool false ∧ Below w6.heap.size w6 wx ∧ Blk wx Z 32 #[.slice none 0 0, .slice none 0 0])
        case first =>
          go_region_held3 (fun w' => w'.cell? ⟨w.heap.size, 0, none⟩ = some (.slice A bs.length c) ∧ w'.cell? ⟨w.heap.size, 1, none⟩ = some (.slice B ts.length d) ∧ w'.cell? ⟨w.heap.size + 1, 0, none⟩ = some (.int .i64 m) ∧ w'.cell? ⟨w.heap.size + 1, 1, none⟩ = some (.string s) ∧ w'.cell? ⟨X, 0, none⟩ = some (.slice (some ⟨x, 0, none⟩) bs.length dx) ∧ w'.cell? ⟨X, 1, none⟩ = some (.slice (some ⟨x', 0, none⟩) ts.length dx')) (go_keep) (first | (go_at_call 18; go_must (go_fit (HTM.out _); rintro e wb ⟨rfl, hbb⟩; (first | (have BB : Hid (Below w6.heap.size w6 wb) := Lib.hid ((Below.refl _ _).drew.trans hbb)) | (have BB : Hid (Below w6.heap.size w6 wb) := Lib.hid (below_to (below_new w6 _).drew hbb (by simp)); have KB := Lib.hid ((Blk.new w6 _ _).drew.below hbb (by simp)))); have SB := Lib.hid (S.out.step BB.out); have OB := Lib.hid (OX.out.below BB.out); have XB := Lib.hid (KX.out.below BB.out KX.out.lt); obtain ⟨v0, v1, _, _⟩ := blkCells2 XB.out; have p0 := World.new_ne wb _ v0; have p1 := World.new_ne wb _ v1; obtain ⟨y0, y1, y2, y3⟩ := SB.out.cells; have n0 := World.new_ne wb _ y0; have n1 := World.new_ne wb _ y1; have n2 := World.new_ne wb _ y2; have n3 := World.new_ne wb _ y3; clear hbb)) | (go_at_call 19; go_must (go_fit (HIM.out _ x dx x' dx' (by first | exact LnB.own OB.out.1 OB.out.2.1 | exact (LnB.own OB.out.1 OB.out.2.1).step (below_new _ _))); rintro e wd ⟨rfl, hbd⟩; (first | (have BD : Hid (Below w6.heap.size w6 wd) := Lib.hid (below_to BB.out hbd BB.out.size)) | (have BD : Hid (Below w6.heap.size w6 wd) := Lib.hid (below_to (below_new' BB.out _) hbd (by have := BB.out.size; simp; omega)))); (first | (have KD := Lib.hid (KB.out.below hbd KB.out.lt); obtain ⟨e0, e1, e2, e3⟩ := blkCells2 KD.out) | (have KD := Lib.hid ((Blk.new wb _ _).below hbd (by simp)); obtain ⟨e0, e1, e2, e3⟩ := blkCells2 KD.out) | skip); have SD := Lib.hid (S.out.step BD.out); obtain ⟨y0, y1, y2, y3⟩ := SD.out.cells; have XD := Lib.hid (KX.out.below BD.out KX.out.lt); obtain ⟨v0, v1, _, _⟩ := blkCells2 XD.out; clear hbd)))
          all_goals
            go_wp2_with fail
            go_meet
            first
              | exact ⟨_, rfl, rfl, cn_a BD.out KD.out (by first | exact Nat.le_refl _ | exact BB.out.size)⟩
              | exact ⟨_, rfl, rfl, below_new' BD.out _, Blk.new _ _ _⟩
        clear v0 v1 p0 p1
        obtain ⟨G, rfl, rfl, hbz, hkz⟩ := hcut
        generalize wc = w22 at *
        have S2 : Hid (Lw w w22 A c bs B d ts m s) := Lib.hid (S.out.step hbz)
        have KZ2 : Hid (Blk w22 Z 32 #[.slice none 0 0, .slice none 0 0]) := Lib.hid (KZ.out.below hbz KZ.out.lt)
        have OX2 : Hid (LnO w22 (w.heap.size + 2) x dx x' dx' bs ts) := Lib.hid (OX.out.below hbz)
        have KX2 : Hid (Blk w22 X 32 #[.slice (some ⟨x, 0, none⟩) bs.length dx, .slice (some ⟨x', 0, none⟩) ts.length dx']) := Lib.hid (KX.out.below hbz KX.out.lt)
        clear S
        clear KZ
        clear OX
        clear KX
        have S := S2
        clear S2
        have KZ := KZ2
        clear KZ2
        have OX := OX2
        clear OX2
        have KX := KX2
        clear KX2
        have KG : Hid (Blk w22 G 32 #[.slice none 0 0, .slice none 0 0]) := Lib.hid hkz
        clear hbz hkz
        clear y0 y1 y2 y3 n0 n1 n2 n3
        obtain ⟨y0, y1, y2, y3⟩ := S.out.cells
        obtain ⟨b00, b01, _, _⟩ := blkCells2 KG.out
        obtain ⟨b10, b11, _, _⟩ := blkCells2 KZ.out
        go_wp2_with fail
        refine (eqLine_nil _).mono ?_
        rintro e w23 ⟨rfl, hb⟩
        have S2 : Hid (Lw w w23 A c bs B d ts m s) := Lib.hid (S.out.step hb)
        have KZ2 : Hid (Blk w23 Z 32 #[.slice none 0 0, .slice none 0 0]) := Lib.hid (KZ.out.below hb KZ.out.lt)
        have OX2 : Hid (LnO w23 (w.heap.size + 2) x dx x' dx' bs ts) := Lib.hid (OX.out.below hb)
        have KX2 : Hid (Blk w23 X 32 #[.slice (some ⟨x, 0, none⟩) bs.length dx, .slice (some ⟨x', 0, none⟩) ts.length dx']) := Lib.hid (KX.out.below hb KX.out.lt)
        have KG2 : Hid (Blk w23 G 32 #[.slice none 0 0, .slice none 0 0]) := Lib.hid (KG.out.below hb KG.out.lt)
        clear S
        clear KZ
        clear OX
        clear KX
        clear KG
        have S := S2
        clear S2
        have KZ := KZ2
        clear KZ2
        have OX := OX2
        clear OX2
        have KX := KX2
        clear KX2
        have KG := KG2
        clear KG2
        clear hb
        clear y0 y1 y2 y3 b00 b01 b10 b11
        go_upto_region 13 with fail
        obtain ⟨y0, y1, y2, y3⟩ := S.out.cells
        obtain ⟨v0, v1, _, _⟩ := blkCells2 KX.out
        go_region_held3 (fun w' => w'.cell? ⟨w.heap.size, 0, none⟩ = some (.slice A bs.length c) ∧ w'.cell? ⟨w.heap.size, 1, none⟩ = some (.slice B ts.length d) ∧ w'.cell? ⟨w.heap.size + 1, 0, none⟩ = some (.int .i64 m) ∧ w'.cell? ⟨w.heap.size + 1, 1, none⟩ = some (.string s) ∧ w'.cell? ⟨X, 0, none⟩ = some (.slice (some ⟨x, 0, none⟩) bs.length dx) ∧ w'.cell? ⟨X, 1, none⟩ = some (.slice (some ⟨x', 0, none⟩) ts.length dx')) (go_keep) (first | (go_at_call 17; go_must (go_fit (HTO.out _ (S.out.step (Below.refl _ _).drew)); rintro e wa ⟨xa, da, xa', da', rfl, hoa, hoa', hnea, hba⟩; have BA : Hid (Below w23.heap.size w23 wa) := Lib.hid ((Below.refl _ _).drew.trans hba); have LA := Lib.hid (LnB.own hoa hoa'); have SA := Lib.hid (S.out.step BA.out); obtain ⟨y0, y1, y2, y3⟩ := SA.out.cells; have XA := Lib.hid (KX.out.below BA.out KX.out.lt); obtain ⟨v0, v1, _, _⟩ := blkCells2 XA.out; clear hba hoa hoa' hnea)) | (go_at_call 20; go_must (go_fit (HEQ.out bs ts (by omega) (by omega) _ x dx x' dx' xa da xa' da' (LnB.own (OX.out.below BA.out).1 (OX.out.below BA.out).2.1) LA.out); rintro e wb ⟨rfl, hbb⟩; have BB : Hid (Below w23.heap.size w23 wb) := Lib.hid (below_to BA.out hbb BA.out.size); have SB := Lib.hid (S.out.step BB.out); obtain ⟨y0, y1, y2, y3⟩ := SB.out.cells; have XB := Lib.hid (KX.out.below BB.out KX.out.lt); obtain ⟨v0, v1, _, _⟩ := blkCells2 XB.out; clear hbb)))
        clear y0 y1 y2 y3 v0 v1
        have S2 : Hid (Lw w wb A c bs B d ts m s) := Lib.hid (S.out.step BB.out)
        have KZ2 : Hid (Blk wb Z 32 #[.slice none 0 0, .slice none 0 0]) := Lib.hid (KZ.out.below BB.out KZ.out.lt)
        have OX2 : Hid (LnO wb (w.heap.size + 2) x dx x' dx' bs ts) := Lib.hid (OX.out.below BB.out)
        have KX2 : Hid (Blk wb X 32 #[.slice (some ⟨x, 0, none⟩) bs.length dx, .slice (some ⟨x', 0, none⟩) ts.length dx']) := Lib.hid (KX.out.below BB.out KX.out.lt)
        have KG2 : Hid (Blk wb G 32 #[.slice none 0 0, .slice none 0 0]) := Lib.hid (KG.out.below BB.out KG.out.lt)
        clear S
        clear KZ
        clear OX
        clear KX
        clear KG
        have S := S2
        clear S2
        have KZ := KZ2
        clear KZ2
        have OX := OX2
        clear OX2
        have KX := KX2
        clear KX2
        have KG := KG2
        clear KG2
        try clear SA SB XA XB BA LA BB
        obtain ⟨y0, y1, y2, y3⟩ := S.out.cells
        obtain ⟨b00, b01, _, _⟩ := blkCells2 KX.out
        go_wp2_with fail
        refine (markLine1 (w.heap.size + 2) x dx x' dx' bs ts _ (by omega) (by omega) OX.out.1 OX.out.2.1 OX.out.2.2).mono ?_
        rintro e w24 ⟨rfl, hmo, hmo2, V, k1, k2⟩
        have S2 : Hid (Lw w w24 A c bs B d ts m s) := Lib.hid (S.out.mark OX.out k1 k2)
        have KZ2 : Hid (Blk w24 Z 32 #[.slice none 0 0, .slice none 0 0]) := Lib.hid (blk_mark KZ.out OX.out k1 k2)
        have KG2 : Hid (Blk w24 G 32 #[.slice none 0 0, .slice none 0 0]) := Lib.hid (blk_mark KG.out OX.out k1 k2)
        clear S
        clear KZ
        clear KG
        have S := S2
        clear S2
        have KZ := KZ2
        clear KZ2
        have KG := KG2
        clear KG2
        clear OX k1 k2 KX
        clear y0 y1 y2 y3 b00 b01
        clear hmo hmo2
        generalize hK1 : (1 + 3 * bs.length + ts.length : Nat) = K1 at *
        clear hK1
        have t5 := dec_f (show ¬ (K1 : Int) < 0 by omega)
        obtain ⟨y0, y1, y2, y3⟩ := S.out.cells
        obtain ⟨b00, b01, _, _⟩ := blkCells2 KG.out
        obtain ⟨b10, b11, _, _⟩ := blkCells2 KZ.out
        go_wp2_with fail
        refine (eqLine_nil _).mono ?_
        rintro e w25 ⟨rfl, hb⟩
        have S2 : Hid (Lw w w25 A c bs B d ts m s) := Lib.hid (S.out.step hb)
        have KZ2 : Hid (Blk w25 Z 32 #[.slice none 0 0, .slice none 0 0]) := Lib.hid (KZ.out.below hb KZ.out.lt)
        have KG2 : Hid (Blk w25 G 32 #[.slice none 0 0, .slice none 0 0]) := Lib.hid (KG.out.below hb KG.out.lt)
        clear S
        clear KZ
        clear KG
        have S := S2
        clear S2
        have KZ := KZ2
        clear KZ2
        have KG := KG2
        clear KG2
        clear hb
        clear y0 y1 y2 y3 b00 b01 b10 b11
        obtain ⟨y0, y1, y2, y3⟩ := S.out.cells
        obtain ⟨b00, b01, _, _⟩ := blkCells2 KG.out
        go_wp2_with fail
        refine (markLine_nil _).mono ?_
        rintro e w26 ⟨rfl, hb⟩
        have S2 : Hid (Lw w w26 A c bs B d ts m s) := Lib.hid (S.out.step hb)
        have KZ2 : Hid (Blk w26 Z 32 #[.slice none 0 0, .slice none 0 0]) := Lib.hid (KZ.out.below hb KZ.out.lt)
        have KG2 : Hid (Blk w26 G 32 #[.slice none 0 0, .slice none 0 0]) := Lib.hid (KG.out.below hb KG.out.lt)
        clear S
        clear KZ
        clear KG
        have S := S2
        clear S2
        have KZ := KZ2
        clear KZ2
        have KG := KG2
        clear KG2
        clear hb
        clear y0 y1 y2 y3 b00 b01
        obtain ⟨y0, y1, y2, y3⟩ := S.out.cells
        obtain ⟨b00, b01, _, _⟩ := blkCells2 KG.out
        go_wp2_with fail
        refine (heldLine_nil _).mono ?_
        rintro e w27 ⟨rfl, hb⟩
        have S2 : Hid (Lw w w27 A c bs B d ts m s) := Lib.hid (S.out.step hb)
        have KZ2 : Hid (Blk w27 Z 32 #[.slice none 0 0, .slice none 0 0]) := Lib.hid (KZ.out.below hb KZ.out.lt)
        have KG2 : Hid (Blk w27 G 32 #[.slice none 0 0, .slice none 0 0]) := Lib.hid (KG.out.below hb KG.out.lt)
        clear S
        clear KZ
        clear KG
        have S := S2
        clear S2
        have KZ := KZ2
        clear KZ2
        have KG := KG2
        clear KG2
        clear hb
        clear y0 y1 y2 y3 b00 b01
        go_upto_region 27 with fail
        obtain ⟨y0, y1, y2, y3⟩ := S.out.cells
        have n0 := World.new_ne w27 _ y0
        have n1 := World.new_ne w27 _ y1
        have n2 := World.new_ne w27 _ y2
        have n3 := World.new_ne w27 _ y3
        go_upto_region 27 with fail
        go_cut [14, 15] (fun a14 a15 wx => ∃ Z : Nat, a14 = .pointer (some ⟨Z, 0, none⟩) ∧ a15 = .bool false ∧ Below w27.heap.size w27 wx ∧ Blk wx Z 32 #[.slice none 0 0, .slice none 0 0])
        case first =>
          go_region_held3 (fun w' => w'.cell? ⟨w.heap.size, 0, none⟩ = some (.slice A bs.length c) ∧ w'.cell? ⟨w.heap.size, 1, none⟩ = some (.slice B ts.length d) ∧ w'.cell? ⟨w.heap.size + 1, 0, none⟩ = some (.int .i64 m) ∧ w'.cell? ⟨w.heap.size + 1, 1, none⟩ = some (.string s)) (go_keep) (first | (go_at_call 17; go_must (go_fit (HTO.out _ (by first | exact S.out.step (Below.refl _ _).drew | exact (S.out.step (below_new _ _)).step (Below.refl _ _).drew)); rintro e wa ⟨xa, da, xa', da', rfl, hoa, hoa', hnea, hba⟩; have OA : Hid (LnO wa w27.heap.size xa da xa' da' bs ts) := Lib.hid ⟨OwnV.mono hoa (by have h1 := hoa.le; simp -failIfUnchanged at h1; omega), OwnV.mono hoa' (by have h1 := hoa'.le; simp -failIfUnchanged at h1; omega), hnea⟩; (first | (have BA : Hid (Below w27.heap.size w27 wa) := Lib.hid ((Below.refl _ _).drew.trans hba)) | (have BA : Hid (Below w27.heap.size w27 wa) := Lib.hid (below_to (below_new w27 _).drew hba (by simp)); have KA := Lib.hid ((Blk.new w27 _ _).drew.below hba (by simp)))); have SA := Lib.hid (S.out.step BA.out); obtain ⟨y0, y1, y2, y3⟩ := SA.out.cells; have n0 := World.new_ne wa _ y0; have n1 := World.new_ne wa _ y1; have n2 := World.new_ne wa _ y2; have n3 := World.new_ne wa _ y3; clear hba hoa hoa' hnea)) | (go_at_call 18; go_must (go_fit (HTM.out _); rintro e wb ⟨rfl, hbb⟩; (first | (have BB : Hid (Below w27.heap.size w27 wb) := Lib.hid (below_to BA.out hbb BA.out.size); have OB := Lib.hid (OA.out.below hbb)) | (have BB : Hid (Below w27.heap.size w27 wb) := Lib.hid (below_to (below_new' BA.out _) hbb (by have := BA.out.size; simp; omega)); have OB := Lib.hid ((OA.out.below (below_new wa _)).below hbb))); (first | (have KB := Lib.hid (KA.out.below hbb KA.out.lt)) | (have KB := Lib.hid ((Blk.new wa _ _).below hbb (by simp))) | skip); have SB := Lib.hid (S.out.step BB.out); obtain ⟨y0, y1, y2, y3⟩ := SB.out.cells; have n0 := World.new_ne wb _ y0; have n1 := World.new_ne wb _ y1; have n2 := World.new_ne wb _ y2; have n3 := World.new_ne wb _ y3; clear hbb)) | (go_at_call 19; go_must (go_fit (HIM.out _ xa da xa' da' (by first | exact LnB.own OB.out.1 OB.out.2.1 | exact (LnB.own OB.out.1 OB.out.2.1).step (below_new _ _))); rintro e wd ⟨rfl, hbd⟩; (first | (have BD : Hid (Below w27.heap.size w27 wd) := Lib.hid (below_to BB.out hbd BB.out.size)) | (have BD : Hid (Below w27.heap.size w27 wd) := Lib.hid (below_to (below_new' BB.out _) hbd (by have := BB.out.size; simp; omega)))); (first | (have KD := Lib.hid (KB.out.below hbd KB.out.lt); obtain ⟨e0, e1, e2, e3⟩ := blkCells2 KD.out) | (have KD := Lib.hid ((Blk.new wb _ _).below hbd (by simp)); obtain ⟨e0, e1, e2, e3⟩ := blkCells2 KD.out) | skip); have SD := Lib.hid (S.out.step BD.out); obtain ⟨y0, y1, y2, y3⟩ := SD.out.cells; clear hbd)))
          all_goals
            go_wp2_with fail
            go_meet
            first
              | exact ⟨_, rfl, rfl, cn_a BD.out KD.out (by first | exact Nat.le_refl _ | exact BA.out.size | exact BB.out.size)⟩
              | exact ⟨_, rfl, rfl, below_new' BD.out _, Blk.new _ _ _⟩
        obtain ⟨Hh, rfl, rfl, hbz, hkz⟩ := hcut
        generalize wc = w28 at *
        have S2 : Hid (Lw w w28 A c bs B d ts m s) := Lib.hid (S.out.step hbz)
        have KZ2 : Hid (Blk w28 Z 32 #[.slice none 0 0, .slice none 0 0]) := Lib.hid (KZ.out.below hbz KZ.out.lt)
        have KG2 : Hid (Blk w28 G 32 #[.slice none 0 0, .slice none 0 0]) := Lib.hid (KG.out.below hbz KG.out.lt)
        clear S
        clear KZ
        clear KG
        have S := S2
        clear S2
        have KZ := KZ2
        clear KZ2
        have KG := KG2
        clear KG2
        have KH : Hid (Blk w28 Hh 32 #[.slice none 0 0, .slice none 0 0]) := Lib.hid hkz
        clear hbz hkz
        clear y0 y1 y2 y3 n0 n1 n2 n3
        obtain ⟨y0, y1, y2, y3⟩ := S.out.cells
        obtain ⟨b00, b01, _, _⟩ := blkCells2 KH.out
        obtain ⟨b10, b11, _, _⟩ := blkCells2 KZ.out
        go_wp2_with fail
        refine (eqLine_nil _).mono ?_
        rintro e w29 ⟨rfl, hb⟩
        have S2 : Hid (Lw w w29 A c bs B d ts m s) := Lib.hid (S.out.step hb)
        have KZ2 : Hid (Blk w29 Z 32 #[.slice none 0 0, .slice none 0 0]) := Lib.hid (KZ.out.below hb KZ.out.lt)
        have KG2 : Hid (Blk w29 G 32 #[.slice none 0 0, .slice none 0 0]) := Lib.hid (KG.out.below hb KG.out.lt)
        have KH2 : Hid (Blk w29 Hh 32 #[.slice none 0 0, .slice none 0 0]) := Lib.hid (KH.out.below hb KH.out.lt)
        clear S
        clear KZ
        clear KG
        clear KH
        have S := S2
        clear S2
        have KZ := KZ2
        clear KZ2
        have KG := KG2
        clear KG2
        have KH := KH2
        clear KH2
        clear hb
        clear y0 y1 y2 y3 b00 b01 b10 b11
        obtain ⟨y0, y1, y2, y3⟩ := S.out.cells
        obtain ⟨b00, b01, _, _⟩ := blkCells2 KG.out
        go_wp2_with fail
        refine (heldLine_nil _).mono ?_
        rintro e w30 ⟨rfl, hb⟩
        have S2 : Hid (Lw w w30 A c bs B d ts m s) := Lib.hid (S.out.step hb)
        have KZ2 : Hid (Blk w30 Z 32 #[.slice none 0 0, .slice none 0 0]) := Lib.hid (KZ.out.below hb KZ.out.lt)
        have KG2 : Hid (Blk w30 G 32 #[.slice none 0 0, .slice none 0 0]) := Lib.hid (KG.out.below hb KG.out.lt)
        have KH2 : Hid (Blk w30 Hh 32 #[.slice none 0 0, .slice none 0 0]) := Lib.hid (KH.out.below hb KH.out.lt)
        clear S
        clear KZ
        clear KG
        clear KH
        have S := S2
        clear S2
        have KZ := KZ2
        clear KZ2
        have KG := KG2
        clear KG2
        have KH := KH2
        clear KH2
        clear hb
        clear y0 y1 y2 y3 b00 b01
        go_wp2_with fail
        go_ret
        exact ⟨rfl, S.out.1⟩
      | some p =>
        obtain ⟨bs', ts'⟩ := p
        have hlen := stepV_len2 ho
        have hb5 : bs'.length ≤ 1048576 := by omega
        have ht5 : ts'.length ≤ 1048576 := by omega
        unfold StepO at hsp him
        simp only at hsp him
        have HSP := Lib.hid hsp
        have HIM := Lib.hid him
        clear hsz hsm hto hsp him heq ho hlen
        go_enter Try.func3, Try.ntmps3
        go_wp2_with fail
        refine (HSZ.out _).mono ?_
        rintro e w2 ⟨rfl, hb2⟩
        have S2 := Lib.hid (S1.out.step hb2)
        obtain ⟨y0, y1, y2, y3⟩ := S2.out.cells
        clear hb2 S1
        go_wp2_with fail
        refine (HSM.out _).mono ?_
        rintro e w3 ⟨rfl, hb3⟩
        have S := Lib.hid (S2.out.step hb3)
        clear hb3 S2 y0 y1 y2 y3
        obtain ⟨y0, y1, y2, y3⟩ := S.out.cells
        have n0 := World.new_ne w3 _ y0
        have n1 := World.new_ne w3 _ y1
        have n2 := World.new_ne w3 _ y2
        have n3 := World.new_ne w3 _ y3
        go_upto_region 8 with fail
        go_cut [6, 7] (fun a6 a7 wx => ∃ Z u r u' r' : Nat, a6 = .pointer (some ⟨Z, 0, none⟩) ∧ a7 = .bool true ∧ Cq w3 wx Z u r u' r' bs' ts')
        case first =>
          go_region_held3 (fun w' => w'.cell? ⟨w.heap.size, 0, none⟩ = some (.slice A bs.length c) ∧ w'.cell? ⟨w.heap.size, 1, none⟩ = some (.slice B ts.length d) ∧ w'.cell? ⟨w.heap.size + 1, 0, none⟩ = some (.int .i64 m) ∧ w'.cell? ⟨w.heap.size + 1, 1, none⟩ = some (.string s)) (go_keep) (first | (go_at_call 17; go_must (go_fit (HTO.out _ (by first | exact S.out.step (Below.refl _ _).drew | exact (S.out.step (below_new _ _)).step (Below.refl _ _).drew)); rintro e wa ⟨xa, da, xa', da', rfl, hoa, hoa', hnea, hba⟩; have OA : Hid (LnO wa w3.heap.size xa da xa' da' bs ts) := Lib.hid ⟨OwnV.mono hoa (by have h1 := hoa.le; simp -failIfUnchanged at h1; omega), OwnV.mono hoa' (by have h1 := hoa'.le; simp -failIfUnchanged at h1; omega), hnea⟩; (first | (have BA : Hid (Below w3.heap.size w3 wa) := Lib.hid ((Below.refl _ _).drew.trans hba)) | (have BA : Hid (Below w3.heap.size w3 wa) := Lib.hid (below_to (below_new w3 _).drew hba (by simp)); have KA := Lib.hid ((Blk.new w3 _ _).drew.below hba (by simp)))); have SA := Lib.hid (S.out.step BA.out); obtain ⟨y0, y1, y2, y3⟩ := SA.out.cells; have n0 := World.new_ne wa _ y0; have n1 := World.new_ne wa _ y1; have n2 := World.new_ne wa _ y2; have n3 := World.new_ne wa _ y3; clear hba hoa hoa' hnea)) | (go_at_call 18; go_must (go_fit (HTM.out _); rintro e wb ⟨rfl, hbb⟩; (first | (have BB : Hid (Below w3.heap.size w3 wb) := Lib.hid (below_to BA.out hbb BA.out.size); have OB := Lib.hid (OA.out.below hbb)) | (have BB : Hid (Below w3.heap.size w3 wb) := Lib.hid (below_to (below_new' BA.out _) hbb (by have := BA.out.size; simp; omega)); have OB := Lib.hid ((OA.out.below (below_new wa _)).below hbb))); (first | (have KB := Lib.hid (KA.out.below hbb KA.out.lt)) | (have KB := Lib.hid ((Blk.new wa _ _).below hbb (by simp))) | skip); have SB := Lib.hid (S.out.step BB.out); obtain ⟨y0, y1, y2, y3⟩ := SB.out.cells; have n0 := World.new_ne wb _ y0; have n1 := World.new_ne wb _ y1; have n2 := World.new_ne wb _ y2; have n3 := World.new_ne wb _ y3; clear hbb)) | (go_at_call 16; go_must (go_fit (HSP.out _ xa da xa' da' (by first | exact LnB.own OB.out.1 OB.out.2.1 | exact (LnB.own OB.out.1 OB.out.2.1).step (below_new _ _))); rintro e wd ⟨u, r, u', r', rfl, hod, hod', hned, hbd⟩; have OD : Hid (LnO wd w3.heap.size u r u' r' bs' ts') := Lib.hid ⟨OwnV.mono hod (by have h1 := hod.le; simp -failIfUnchanged at h1; have := BB.out.size; omega), OwnV.mono hod' (by have h1 := hod'.le; simp -failIfUnchanged at h1; have := BB.out.size; omega), hned⟩; (first | (have BD : Hid (Below w3.heap.size w3 wd) := Lib.hid (below_to BB.out hbd BB.out.size)) | (have BD : Hid (Below w3.heap.size w3 wd) := Lib.hid (below_to (below_new' BB.out _) hbd (by have := BB.out.size; simp; omega)))); (first | (have KD := Lib.hid (KB.out.below hbd KB.out.lt); obtain ⟨e0, e1, e2, e3⟩ := blkCells2 KD.out) | (have KD := Lib.hid ((Blk.new wb _ _).below hbd (by simp)); obtain ⟨e0, e1, e2, e3⟩ := blkCells2 KD.out) | skip); have SD := Lib.hid (S.out.step BD.out); obtain ⟨y0, y1, y2, y3⟩ := SD.out.cells; clear hbd hod hod' hned)))
          all_goals
            go_wp2_with fail
            go_meet
            first
              | exact ⟨_, _, _, _, _, rfl, rfl, cq_a BD.out KD.out OD.out (by first | exact Nat.le_refl _ | exact BA.out.size | exact BB.out.size)⟩
              | exact ⟨_, _, _, _, _, rfl, rfl, cq_b BD.out OD.out⟩
        obtain ⟨Z, u, r, u', r', rfl, rfl, hbz, hkz, hoz⟩ := hcut
        generalize wc = w21 at *
        have hsz2 : w.heap.size + 2 ≤ w3.heap.size := by have := S.out.2.2.2.2.lt; omega
        have S2 : Hid (Lw w w21 A c bs B d ts m s) := Lib.hid (S.out.step hbz)
        clear S
        have S := S2
        clear S2
        have KZ : Hid (Blk w21 Z 32 #[.slice (some ⟨u, 0, none⟩) bs'.length r, .slice (some ⟨u', 0, none⟩) ts'.length r']) := Lib.hid hkz
        have OZ : Hid (LnO w21 (w.heap.size + 2) u r u' r' bs' ts') := Lib.hid ⟨OwnV.mono hoz.1 (Nat.le_trans hsz2 hoz.1.le), OwnV.mono hoz.2.1 (Nat.le_trans hsz2 hoz.2.1.le), hoz.2.2⟩
        clear hbz hkz hoz hsz2
        clear y0 y1 y2 y3 n0 n1 n2 n3
        obtain ⟨y0, y1, y2, y3⟩ := S.out.cells
        go_wp2_with fail
        refine (HTO.out _ S.out).mono ?_
        rintro e w5 ⟨x, dx, x', dx', rfl, hox, hox', hnex, hb⟩
        have hsz2 : w.heap.size + 2 ≤ w21.heap.size := by have := S.out.2.2.2.2.lt; omega
        have NOZOX : Hid (u ≠ x ∧ u' ≠ x') := Lib.hid (by have h1 := hox.le; have h2 := hox'.le; have h3 := OZ.out.1.lt; have h4 := OZ.out.2.1.lt; omega)
        have S2 : Hid (Lw w w5 A c bs B d ts m s) := Lib.hid (S.out.step hb)
        have KZ2 : Hid (Blk w5 Z 32 #[.slice (some ⟨u, 0, none⟩) bs'.length r, .slice (some ⟨u', 0, none⟩) ts'.length r']) := Lib.hid (KZ.out.below hb KZ.out.lt)
        have OZ2 : Hid (LnO w5 (w.heap.size + 2) u r u' r' bs' ts') := Lib.hid (OZ.out.below hb)
        clear S
        clear KZ
        clear OZ
        have S := S2
        clear S2
        have KZ := KZ2
        clear KZ2
        have OZ := OZ2
        clear OZ2
        have OX : Hid (LnO w5 (w.heap.size + 2) x dx x' dx' bs ts) := Lib.hid ⟨OwnV.mono hox (Nat.le_trans hsz2 hox.le), OwnV.mono hox' (Nat.le_trans hsz2 hox'.le), hnex⟩
        have hb2 := below_new w5 (.cells #[.slice (some ⟨x, 0, none⟩) bs.length dx, .slice (some ⟨x', 0, none⟩) ts.length dx'] 32)
        have KX2 := Lib.hid (Blk.new w5 32 #[.slice (some ⟨x, 0, none⟩) bs.length dx, .slice (some ⟨x', 0, none⟩) ts.length dx'])
        clear hb hox hox' hnex hsz2 y0 y1 y2 y3
        go_upto_region 10 with fail
        have S2 : Hid (Lw w (w5.alloc (.cells #[.slice (some ⟨x, 0, none⟩) bs.length dx, .slice (some ⟨x', 0, none⟩) ts.length dx'] 32)) A c bs B d ts m s) := Lib.hid (S.out.step hb2)
        have KZ2 : Hid (Blk (w5.alloc (.cells #[.slice (some ⟨x, 0, none⟩) bs.length dx, .slice (some ⟨x', 0, none⟩) ts.length dx'] 32)) Z 32 #[.slice (some ⟨u, 0, none⟩) bs'.length r, .slice (some ⟨u', 0, none⟩) ts'.length r']) := Lib.hid (KZ.out.below hb2 KZ.out.lt)
        have OZ2 : Hid (LnO (w5.alloc (.cells #[.slice (some ⟨x, 0, none⟩) bs.length dx, .slice (some ⟨x', 0, none⟩) ts.length dx'] 32)) (w.heap.size + 2) u r u' r' bs' ts') := Lib.hid (OZ.out.below hb2)
        have OX2 : Hid (LnO (w5.alloc (.cells #[.slice (some ⟨x, 0, none⟩) bs.length dx, .slice (some ⟨x', 0, none⟩) ts.length dx'] 32)) (w.heap.size + 2) x dx x' dx' bs ts) := Lib.hid (OX.out.below hb2)
        clear S
        clear KZ
        clear OZ
        clear OX
        have S := S2
        clear S2
        have KZ := KZ2
        clear KZ2
        have OZ := OZ2
        clear OZ2
        have OX := OX2
        clear OX2
        clear hb2
        generalize w5.alloc (.cells #[.slice (some ⟨x, 0, none⟩) bs.length dx, .slice (some ⟨x', 0, none⟩) ts.length dx'] 32) = w6 at *
        generalize w5.heap.size = X at *
        have KX := KX2
        clear KX2
        obtain ⟨v0, v1, _, _⟩ := blkCells2 KX.out
        have p0 := World.new_ne w6 _ v0
        have p1 := World.new_ne w6 _ v1
        obtain ⟨y0, y1, y2, y3⟩ := S.out.cells
        have n0 := World.new_ne w6 _ y0
        have n1 := World.new_ne w6 _ y1
        have n2 := World.new_ne w6 _ y2
        have n3 := World.new_ne w6 _ y3
        go_upto_region 10 with fail
        go_cut [9, 10] (fun a9 a10 wx => ∃ Z u r u' r' : Nat, a9 = .pointer (some ⟨Z, 0, none⟩) ∧ a10 = .bool true ∧ Cq w6 wx Z u r u' r' bs' ts')
        case first =>
          go_region_held3 (fun w' => w'.cell? ⟨w.heap.size, 0, none⟩ = some (.slice A bs.length c) ∧ w'.cell? ⟨w.heap.size, 1, none⟩ = some (.slice B ts.length d) ∧ w'.cell? ⟨w.heap.size + 1, 0, none⟩ = some (.int .i64 m) ∧ w'.cell? ⟨w.heap.size + 1, 1, none⟩ = some (.string s) ∧ w'.cell? ⟨X, 0, none⟩ = some (.slice (some ⟨x, 0, none⟩) bs.length dx) ∧ w'.cell? ⟨X, 1, none⟩ = some (.slice (some ⟨x', 0, none⟩) ts.length dx')) (go_keep) (first | (go_at_call 18; go_must (go_fit (HTM.out _); rintro e wb ⟨rfl, hbb⟩; (first | (have BB : Hid (Below w6.heap.size w6 wb) := Lib.hid ((Below.refl _ _).drew.trans hbb)) | (have BB : Hid (Below w6.heap.size w6 wb) := Lib.hid (below_to (below_new w6 _).drew hbb (by simp)); have KB := Lib.hid ((Blk.new w6 _ _).drew.below hbb (by simp)))); have SB := Lib.hid (S.out.step BB.out); have OB := Lib.hid (OX.out.below BB.out); have XB := Lib.hid (KX.out.below BB.out KX.out.lt); obtain ⟨v0, v1, _, _⟩ := blkCells2 XB.out; have p0 := World.new_ne wb _ v0; have p1 := World.new_ne wb _ v1; obtain ⟨y0, y1, y2, y3⟩ := SB.out.cells; have n0 := World.new_ne wb _ y0; have n1 := World.new_ne wb _ y1; have n2 := World.new_ne wb _ y2; have n3 := World.new_ne wb _ y3; clear hbb)) | (go_at_call 19; go_must (go_fit (HIM.out _ x dx x' dx' (by first | exact LnB.own OB.out.1 OB.out.2.1 | exact (LnB.own OB.out.1 OB.out.2.1).step (below_new _ _))); rintro e wd ⟨u, r, u', r', rfl, hod, hod', hned, hbd⟩; have OD : Hid (LnO wd w6.heap.size u r u' r' bs' ts') := Lib.hid ⟨OwnV.mono hod (by have h1 := hod.le; simp -failIfUnchanged at h1; have := BB.out.size; omega), OwnV.mono hod' (by have h1 := hod'.le; simp -failIfUnchanged at h1; have := BB.out.size; omega), hned⟩; (first | (have BD : Hid (Below w6.heap.size w6 wd) := Lib.hid (below_to BB.out hbd BB.out.size)) | (have BD : Hid (Below w6.heap.size w6 wd) := Lib.hid (below_to (below_new' BB.out _) hbd (by have := BB.out.size; simp; omega)))); (first | (have KD := Lib.hid (KB.out.below hbd KB.out.lt); obtain ⟨e0, e1, e2, e3⟩ := blkCells2 KD.out) | (have KD := Lib.hid ((Blk.new wb _ _).below hbd (by simp)); obtain ⟨e0, e1, e2, e3⟩ := blkCells2 KD.out) | skip); have SD := Lib.hid (S.out.step BD.out); obtain ⟨y0, y1, y2, y3⟩ := SD.out.cells; have XD := Lib.hid (KX.out.below BD.out KX.out.lt); obtain ⟨v0, v1, _, _⟩ := blkCells2 XD.out; clear hbd hod hod' hned)))
          all_goals
            go_wp2_with fail
            go_meet
            first
              | exact ⟨_, _, _, _, _, rfl, rfl, cq_a BD.out KD.out OD.out (by first | exact Nat.le_refl _ | exact BB.out.size)⟩
              | exact ⟨_, _, _, _, _, rfl, rfl, cq_b BD.out OD.out⟩
        clear v0 v1 p0 p1
        obtain ⟨G, g, dg, g', dg', rfl, rfl, hbz, hkz, hoz⟩ := hcut
        generalize wc = w22 at *
        have hsz2 : w.heap.size + 2 ≤ w6.heap.size := by have := S.out.2.2.2.2.lt; omega
        have NOZOG : Hid (u ≠ g ∧ u' ≠ g') := Lib.hid (by have h1 := hoz.1.le; have h2 := hoz.2.1.le; have h3 := OZ.out.1.lt; have h4 := OZ.out.2.1.lt; omega)
        have NOXOG : Hid (x ≠ g ∧ x' ≠ g') := Lib.hid (by have h1 := hoz.1.le; have h2 := hoz.2.1.le; have h3 := OX.out.1.lt; have h4 := OX.out.2.1.lt; omega)
        have S2 : Hid (Lw w w22 A c bs B d ts m s) := Lib.hid (S.out.step hbz)
        have KZ2 : Hid (Blk w22 Z 32 #[.slice (some ⟨u, 0, none⟩) bs'.length r, .slice (some ⟨u', 0, none⟩) ts'.length r']) := Lib.hid (KZ.out.below hbz KZ.out.lt)
        have OZ2 : Hid (LnO w22 (w.heap.size + 2) u r u' r' bs' ts') := Lib.hid (OZ.out.below hbz)
        have OX2 : Hid (LnO w22 (w.heap.size + 2) x dx x' dx' bs ts) := Lib.hid (OX.out.below hbz)
        have KX2 : Hid (Blk w22 X 32 #[.slice (some ⟨x, 0, none⟩) bs.length dx, .slice (some ⟨x', 0, none⟩) ts.length dx']) := Lib.hid (KX.out.below hbz KX.out.lt)
        clear S
        clear KZ
        clear OZ
        clear OX
        clear KX
        have S := S2
        clear S2
        have KZ := KZ2
        clear KZ2
        have OZ := OZ2
        clear OZ2
        have OX := OX2
        clear OX2
        have KX := KX2
        clear KX2
        have KG : Hid (Blk w22 G 32 #[.slice (some ⟨g, 0, none⟩) bs'.length dg, .slice (some ⟨g', 0, none⟩) ts'.length dg']) := Lib.hid hkz
        have OG : Hid (LnO w22 (w.heap.size + 2) g dg g' dg' bs' ts') := Lib.hid ⟨OwnV.mono hoz.1 (Nat.le_trans hsz2 hoz.1.le), OwnV.mono hoz.2.1 (Nat.le_trans hsz2 hoz.2.1.le), hoz.2.2⟩
        clear hbz hkz hoz hsz2
        clear y0 y1 y2 y3 n0 n1 n2 n3
        obtain ⟨y0, y1, y2, y3⟩ := S.out.cells
        obtain ⟨b00, b01, _, _⟩ := blkCells2 KG.out
        obtain ⟨b10, b11, _, _⟩ := blkCells2 KZ.out
        go_wp2_with fail
        refine (HEQ.out bs' ts' (by omega) (by omega) _ g dg g' dg' u r u' r' (LnB.own OG.out.1 OG.out.2.1) (LnB.own OZ.out.1 OZ.out.2.1)).mono ?_
        rintro e w23 ⟨rfl, hb⟩
        have S2 : Hid (Lw w w23 A c bs B d ts m s) := Lib.hid (S.out.step hb)
        have KZ2 : Hid (Blk w23 Z 32 #[.slice (some ⟨u, 0, none⟩) bs'.length r, .slice (some ⟨u', 0, none⟩) ts'.length r']) := Lib.hid (KZ.out.below hb KZ.out.lt)
        have OZ2 : Hid (LnO w23 (w.heap.size + 2) u r u' r' bs' ts') := Lib.hid (OZ.out.below hb)
        have OX2 : Hid (LnO w23 (w.heap.size + 2) x dx x' dx' bs ts) := Lib.hid (OX.out.below hb)
        have KX2 : Hid (Blk w23 X 32 #[.slice (some ⟨x, 0, none⟩) bs.length dx, .slice (some ⟨x', 0, none⟩) ts.length dx']) := Lib.hid (KX.out.below hb KX.out.lt)
        have KG2 : Hid (Blk w23 G 32 #[.slice (some ⟨g, 0, none⟩) bs'.length dg, .slice (some ⟨g', 0, none⟩) ts'.length dg']) := Lib.hid (KG.out.below hb KG.out.lt)
        have OG2 : Hid (LnO w23 (w.heap.size + 2) g dg g' dg' bs' ts') := Lib.hid (OG.out.below hb)
        clear S
        clear KZ
        clear OZ
        clear OX
        clear KX
        clear KG
        clear OG
        have S := S2
        clear S2
        have KZ := KZ2
        clear KZ2
        have OZ := OZ2
        clear OZ2
        have OX := OX2
        clear OX2
        have KX := KX2
        clear KX2
        have KG := KG2
        clear KG2
        have OG := OG2
        clear OG2
        clear hb
        clear y0 y1 y2 y3 b00 b01 b10 b11
        go_upto_region 13 with fail
        obtain ⟨y0, y1, y2, y3⟩ := S.out.cells
        obtain ⟨v0, v1, _, _⟩ := blkCells2 KX.out
        go_region_held3 (fun w' => w'.cell? ⟨w.heap.size, 0, none⟩ = some (.slice A bs.length c) ∧ w'.cell? ⟨w.heap.size, 1, none⟩ = some (.slice B ts.length d) ∧ w'.cell? ⟨w.heap.size + 1, 0, none⟩ = some (.int .i64 m) ∧ w'.cell? ⟨w.heap.size + 1, 1, none⟩ = some (.string s) ∧ w'.cell? ⟨X, 0, none⟩ = some (.slice (some ⟨x, 0, none⟩) bs.length dx) ∧ w'.cell? ⟨X, 1, none⟩ = some (.slice (some ⟨x', 0, none⟩) ts.length dx')) (go_keep) (first | (go_at_call 17; go_must (go_fit (HTO.out _ (S.out.step (Below.refl _ _).drew)); rintro e wa ⟨xa, da, xa', da', rfl, hoa, hoa', hnea, hba⟩; have BA : Hid (Below w23.heap.size w23 wa) := Lib.hid ((Below.refl _ _).drew.trans hba); have LA := Lib.hid (LnB.own hoa hoa'); have SA := Lib.hid (S.out.step BA.out); obtain ⟨y0, y1, y2, y3⟩ := SA.out.cells; have XA := Lib.hid (KX.out.below BA.out KX.out.lt); obtain ⟨v0, v1, _, _⟩ := blkCells2 XA.out; clear hba hoa hoa' hnea)) | (go_at_call 20; go_must (go_fit (HEQ.out bs ts (by omega) (by omega) _ x dx x' dx' xa da xa' da' (LnB.own (OX.out.below BA.out).1 (OX.out.below BA.out).2.1) LA.out); rintro e wb ⟨rfl, hbb⟩; have BB : Hid (Below w23.heap.size w23 wb) := Lib.hid (below_to BA.out hbb BA.out.size); have SB := Lib.hid (S.out.step BB.out); obtain ⟨y0, y1, y2, y3⟩ := SB.out.cells; have XB := Lib.hid (KX.out.below BB.out KX.out.lt); obtain ⟨v0, v1, _, _⟩ := blkCells2 XB.out; clear hbb)))
        clear y0 y1 y2 y3 v0 v1
        have S2 : Hid (Lw w wb A c bs B d ts m s) := Lib.hid (S.out.step BB.out)
        have KZ2 : Hid (Blk wb Z 32 #[.slice (some ⟨u, 0, none⟩) bs'.length r, .slice (some ⟨u', 0, none⟩) ts'.length r']) := Lib.hid (KZ.out.below BB.out KZ.out.lt)
        have OZ2 : Hid (LnO wb (w.heap.size + 2) u r u' r' bs' ts') := Lib.hid (OZ.out.below BB.out)
        have OX2 : Hid (LnO wb (w.heap.size + 2) x dx x' dx' bs ts) := Lib.hid (OX.out.below BB.out)
        have KX2 : Hid (Blk wb X 32 #[.slice (some ⟨x, 0, none⟩) bs.length dx, .slice (some ⟨x', 0, none⟩) ts.length dx']) := Lib.hid (KX.out.below BB.out KX.out.lt)
        have KG2 : Hid (Blk wb G 32 #[.slice (some ⟨g, 0, none⟩) bs'.length dg, .slice (some ⟨g', 0, none⟩) ts'.length dg']) := Lib.hid (KG.out.below BB.out KG.out.lt)
        have OG2 : Hid (LnO wb (w.heap.size + 2) g dg g' dg' bs' ts') := Lib.hid (OG.out.below BB.out)
        clear S
        clear KZ
        clear OZ
        clear OX
        clear KX
        clear KG
        clear OG
        have S := S2
        clear S2
        have KZ := KZ2
        clear KZ2
        have OZ := OZ2
        clear OZ2
        have OX := OX2
        clear OX2
        have KX := KX2
        clear KX2
        have KG := KG2
        clear KG2
        have OG := OG2
        clear OG2
        try clear SA SB XA XB BA LA BB
        obtain ⟨y0, y1, y2, y3⟩ := S.out.cells
        obtain ⟨b00, b01, _, _⟩ := blkCells2 KX.out
        go_wp2_with fail
        refine (markLine1 (w.heap.size + 2) x dx x' dx' bs ts _ (by omega) (by omega) OX.out.1 OX.out.2.1 OX.out.2.2).mono ?_
        rintro e w24 ⟨rfl, hmo, hmo2, V, k1, k2⟩
        have S2 : Hid (Lw w w24 A c bs B d ts m s) := Lib.hid (S.out.mark OX.out k1 k2)
        have KZ2 : Hid (Blk w24 Z 32 #[.slice (some ⟨u, 0, none⟩) bs'.length r, .slice (some ⟨u', 0, none⟩) ts'.length r']) := Lib.hid (blk_mark KZ.out OX.out k1 k2)
        have OZ2 : Hid (LnO w24 (w.heap.size + 2) u r u' r' bs' ts') := Lib.hid (OZ.out.mark OX.out NOZOX.out.1 NOZOX.out.2 k1 k2)
        have KG2 : Hid (Blk w24 G 32 #[.slice (some ⟨g, 0, none⟩) bs'.length dg, .slice (some ⟨g', 0, none⟩) ts'.length dg']) := Lib.hid (blk_mark KG.out OX.out k1 k2)
        have OG2 : Hid (LnO w24 (w.heap.size + 2) g dg g' dg' bs' ts') := Lib.hid (OG.out.mark OX.out (Ne.symm NOXOG.out.1) (Ne.symm NOXOG.out.2) k1 k2)
        clear S
        clear KZ
        clear OZ
        clear KG
        clear OG
        have S := S2
        clear S2
        have KZ := KZ2
        clear KZ2
        have OZ := OZ2
        clear OZ2
        have KG := KG2
        clear KG2
        have OG := OG2
        clear OG2
        clear OX k1 k2 KX
        clear y0 y1 y2 y3 b00 b01
        clear hmo hmo2
        generalize hK1 : (1 + 3 * bs.length + ts.length : Nat) = K1 at *
        clear hK1
        have t5 := dec_f (show ¬ (K1 : Int) < 0 by omega)
        obtain ⟨y0, y1, y2, y3⟩ := S.out.cells
        obtain ⟨b00, b01, _, _⟩ := blkCells2 KG.out
        obtain ⟨b10, b11, _, _⟩ := blkCells2 KZ.out
        go_wp2_with fail
        refine (HEQ.out bs' ts' (by omega) (by omega) _ g dg g' dg' u r u' r' (LnB.own OG.out.1 OG.out.2.1) (LnB.own OZ.out.1 OZ.out.2.1)).mono ?_
        rintro e w25 ⟨rfl, hb⟩
        have S2 : Hid (Lw w w25 A c bs B d ts m s) := Lib.hid (S.out.step hb)
        have KZ2 : Hid (Blk w25 Z 32 #[.slice (some ⟨u, 0, none⟩) bs'.length r, .slice (some ⟨u', 0, none⟩) ts'.length r']) := Lib.hid (KZ.out.below hb KZ.out.lt)
        have OZ2 : Hid (LnO w25 (w.heap.size + 2) u r u' r' bs' ts') := Lib.hid (OZ.out.below hb)
        have KG2 : Hid (Blk w25 G 32 #[.slice (some ⟨g, 0, none⟩) bs'.length dg, .slice (some ⟨g', 0, none⟩) ts'.length dg']) := Lib.hid (KG.out.below hb KG.out.lt)
        have OG2 : Hid (LnO w25 (w.heap.size + 2) g dg g' dg' bs' ts') := Lib.hid (OG.out.below hb)
        clear S
        clear KZ
        clear OZ
        clear KG
        clear OG
        have S := S2
        clear S2
        have KZ := KZ2
        clear KZ2
        have OZ := OZ2
        clear OZ2
        have KG := KG2
        clear KG2
        have OG := OG2
        clear OG2
        clear hb
        clear y0 y1 y2 y3 b00 b01 b10 b11
        obtain ⟨y0, y1, y2, y3⟩ := S.out.cells
        obtain ⟨b00, b01, _, _⟩ := blkCells2 KG.out
        go_wp2_with fail
        refine (markLine1 (w.heap.size + 2) g dg g' dg' bs' ts' _ (by omega) (by omega) OG.out.1 OG.out.2.1 OG.out.2.2).mono ?_
        rintro e w26 ⟨rfl, hmo, hmo2, V, k1, k2⟩
        have S2 : Hid (Lw w w26 A c bs B d ts m s) := Lib.hid (S.out.mark OG.out k1 k2)
        have KZ2 : Hid (Blk w26 Z 32 #[.slice (some ⟨u, 0, none⟩) bs'.length r, .slice (some ⟨u', 0, none⟩) ts'.length r']) := Lib.hid (blk_mark KZ.out OG.out k1 k2)
        have OZ2 : Hid (LnO w26 (w.heap.size + 2) u r u' r' bs' ts') := Lib.hid (OZ.out.mark OG.out NOZOG.out.1 NOZOG.out.2 k1 k2)
        have KG2 : Hid (Blk w26 G 32 #[.slice (some ⟨g, 0, none⟩) bs'.length dg, .slice (some ⟨g', 0, none⟩) ts'.length dg']) := Lib.hid (blk_mark KG.out OG.out k1 k2)
        clear S
        clear KZ
        clear OZ
        clear KG
        have S := S2
        clear S2
        have KZ := KZ2
        clear KZ2
        have OZ := OZ2
        clear OZ2
        have KG := KG2
        clear KG2
        clear OG k1 k2
        clear y0 y1 y2 y3 b00 b01
        have P0 : Hid (OwnB w26 (w.heap.size + 2) g dg (mksB 1 bs'.length)) := Lib.hid hmo
        have P1 : Hid (Own w26 (w.heap.size + 2) g' dg' (marks ((1 + 3 * bs'.length : Nat) : Int) ts'.length)) := Lib.hid hmo2
        clear hmo hmo2
        have hhd := fun W (a : AtBl W g 0 (mksB 1 bs'.length)) (b : AtInts W g' 0 (marks ((1 + 3 * bs'.length : Nat) : Int) ts'.length)) (h1 : g < W.heap.size) (h2 : g' < W.heap.size) => heldLine1 g dg g' dg' bs'.length ts'.length W (by omega) (by omega) h1 h2 a b
        have HA : Hid (∀ W, OwnB W (w.heap.size + 2) g dg (mksB 1 bs'.length) → AtBl W g 0 (mksB 1 bs'.length)) := Lib.hid fun W h => OwnB.at h
        generalize hK2 : (1 + 3 * bs'.length + ts'.length : Nat) = K2 at *
        clear hK2
        have t6 := dec_f (show ¬ (K2 : Int) < 0 by omega)
        have t7 := bne_f (show (K2 : Int) = (K2 : Int) from rfl)
        have HHD := Lib.hid hhd
        clear hhd
        obtain ⟨y0, y1, y2, y3⟩ := S.out.cells
        obtain ⟨b00, b01, _, _⟩ := blkCells2 KG.out
        go_wp2_with fail
        refine (HHD.out _ P0.out.at P1.out.at P0.out.lt P1.out.lt).mono ?_
        rintro e w27 ⟨rfl, hb⟩
        have S2 : Hid (Lw w w27 A c bs B d ts m s) := Lib.hid (S.out.step hb)
        have KZ2 : Hid (Blk w27 Z 32 #[.slice (some ⟨u, 0, none⟩) bs'.length r, .slice (some ⟨u', 0, none⟩) ts'.length r']) := Lib.hid (KZ.out.below hb KZ.out.lt)
        have OZ2 : Hid (LnO w27 (w.heap.size + 2) u r u' r' bs' ts') := Lib.hid (OZ.out.below hb)
        have KG2 : Hid (Blk w27 G 32 #[.slice (some ⟨g, 0, none⟩) bs'.length dg, .slice (some ⟨g', 0, none⟩) ts'.length dg']) := Lib.hid (KG.out.below hb KG.out.lt)
        have P02 : Hid (OwnB w27 (w.heap.size + 2) g dg (mksB 1 bs'.length)) := Lib.hid (OwnV.below P0.out hb (OwnV.lt P0.out))
        have P12 : Hid (Own w27 (w.heap.size + 2) g' dg' (marks ((1 + 3 * bs'.length : Nat) : Int) ts'.length)) := Lib.hid (OwnV.below P1.out hb (OwnV.lt P1.out))
        clear S
        clear KZ
        clear OZ
        clear KG
        clear P0
        clear P1
        have S := S2
        clear S2
        have KZ := KZ2
        clear KZ2
        have OZ := OZ2
        clear OZ2
        have KG := KG2
        clear KG2
        have P0 := P02
        clear P02
        have P1 := P12
        clear P12
        clear hb
        clear y0 y1 y2 y3 b00 b01
        go_upto_region 27 with fail
        obtain ⟨y0, y1, y2, y3⟩ := S.out.cells
        have n0 := World.new_ne w27 _ y0
        have n1 := World.new_ne w27 _ y1
        have n2 := World.new_ne w27 _ y2
        have n3 := World.new_ne w27 _ y3
        go_upto_region 27 with fail
        go_cut [14, 15] (fun a14 a15 wx => ∃ Z u r u' r' : Nat, a14 = .pointer (some ⟨Z, 0, none⟩) ∧ a15 = .bool true ∧ Cq w27 wx Z u r u' r' bs' ts')
        case first =>
          go_region_held3 (fun w' => w'.cell? ⟨w.heap.size, 0, none⟩ = some (.slice A bs.length c) ∧ w'.cell? ⟨w.heap.size, 1, none⟩ = some (.slice B ts.length d) ∧ w'.cell? ⟨w.heap.size + 1, 0, none⟩ = some (.int .i64 m) ∧ w'.cell? ⟨w.heap.size + 1, 1, none⟩ = some (.string s)) (go_keep) (first | (go_at_call 17; go_must (go_fit (HTO.out _ (by first | exact S.out.step (Below.refl _ _).drew | exact (S.out.step (below_new _ _)).step (Below.refl _ _).drew)); rintro e wa ⟨xa, da, xa', da', rfl, hoa, hoa', hnea, hba⟩; have OA : Hid (LnO wa w27.heap.size xa da xa' da' bs ts) := Lib.hid ⟨OwnV.mono hoa (by have h1 := hoa.le; simp -failIfUnchanged at h1; omega), OwnV.mono hoa' (by have h1 := hoa'.le; simp -failIfUnchanged at h1; omega), hnea⟩; (first | (have BA : Hid (Below w27.heap.size w27 wa) := Lib.hid ((Below.refl _ _).drew.trans hba)) | (have BA : Hid (Below w27.heap.size w27 wa) := Lib.hid (below_to (below_new w27 _).drew hba (by simp)); have KA := Lib.hid ((Blk.new w27 _ _).drew.below hba (by simp)))); have SA := Lib.hid (S.out.step BA.out); obtain ⟨y0, y1, y2, y3⟩ := SA.out.cells; have n0 := World.new_ne wa _ y0; have n1 := World.new_ne wa _ y1; have n2 := World.new_ne wa _ y2; have n3 := World.new_ne wa _ y3; clear hba hoa hoa' hnea)) | (go_at_call 18; go_must (go_fit (HTM.out _); rintro e wb ⟨rfl, hbb⟩; (first | (have BB : Hid (Below w27.heap.size w27 wb) := Lib.hid (below_to BA.out hbb BA.out.size); have OB := Lib.hid (OA.out.below hbb)) | (have BB : Hid (Below w27.heap.size w27 wb) := Lib.hid (below_to (below_new' BA.out _) hbb (by have := BA.out.size; simp; omega)); have OB := Lib.hid ((OA.out.below (below_new wa _)).below hbb))); (first | (have KB := Lib.hid (KA.out.below hbb KA.out.lt)) | (have KB := Lib.hid ((Blk.new wa _ _).below hbb (by simp))) | skip); have SB := Lib.hid (S.out.step BB.out); obtain ⟨y0, y1, y2, y3⟩ := SB.out.cells; have n0 := World.new_ne wb _ y0; have n1 := World.new_ne wb _ y1; have n2 := World.new_ne wb _ y2; have n3 := World.new_ne wb _ y3; clear hbb)) | (go_at_call 19; go_must (go_fit (HIM.out _ xa da xa' da' (by first | exact LnB.own OB.out.1 OB.out.2.1 | exact (LnB.own OB.out.1 OB.out.2.1).step (below_new _ _))); rintro e wd ⟨u, r, u', r', rfl, hod, hod', hned, hbd⟩; have OD : Hid (LnO wd w27.heap.size u r u' r' bs' ts') := Lib.hid ⟨OwnV.mono hod (by have h1 := hod.le; simp -failIfUnchanged at h1; have := BB.out.size; omega), OwnV.mono hod' (by have h1 := hod'.le; simp -failIfUnchanged at h1; have := BB.out.size; omega), hned⟩; (first | (have BD : Hid (Below w27.heap.size w27 wd) := Lib.hid (below_to BB.out hbd BB.out.size)) | (have BD : Hid (Below w27.heap.size w27 wd) := Lib.hid (below_to (below_new' BB.out _) hbd (by have := BB.out.size; simp; omega)))); (first | (have KD := Lib.hid (KB.out.below hbd KB.out.lt); obtain ⟨e0, e1, e2, e3⟩ := blkCells2 KD.out) | (have KD := Lib.hid ((Blk.new wb _ _).below hbd (by simp)); obtain ⟨e0, e1, e2, e3⟩ := blkCells2 KD.out) | skip); have SD := Lib.hid (S.out.step BD.out); obtain ⟨y0, y1, y2, y3⟩ := SD.out.cells; clear hbd hod hod' hned)))
          all_goals
            go_wp2_with fail
            go_meet
            first
              | exact ⟨_, _, _, _, _, rfl, rfl, cq_a BD.out KD.out OD.out (by first | exact Nat.le_refl _ | exact BA.out.size | exact BB.out.size)⟩
              | exact ⟨_, _, _, _, _, rfl, rfl, cq_b BD.out OD.out⟩
        obtain ⟨Hh, h, dh, h', dh', rfl, rfl, hbz, hkz, hoz⟩ := hcut
        generalize wc = w28 at *
        have hsz2 : w.heap.size + 2 ≤ w27.heap.size := by have := S.out.2.2.2.2.lt; omega
        have NOZOH : Hid (u ≠ h ∧ u' ≠ h') := Lib.hid (by have h1 := hoz.1.le; have h2 := hoz.2.1.le; have h3 := OZ.out.1.lt; have h4 := OZ.out.2.1.lt; omega)
        have S2 : Hid (Lw w w28 A c bs B d ts m s) := Lib.hid (S.out.step hbz)
        have KZ2 : Hid (Blk w28 Z 32 #[.slice (some ⟨u, 0, none⟩) bs'.length r, .slice (some ⟨u', 0, none⟩) ts'.length r']) := Lib.hid (KZ.out.below hbz KZ.out.lt)
        have OZ2 : Hid (LnO w28 (w.heap.size + 2) u r u' r' bs' ts') := Lib.hid (OZ.out.below hbz)
        have KG2 : Hid (Blk w28 G 32 #[.slice (some ⟨g, 0, none⟩) bs'.length dg, .slice (some ⟨g', 0, none⟩) ts'.length dg']) := Lib.hid (KG.out.below hbz KG.out.lt)
        have P02 : Hid (OwnB w28 (w.heap.size + 2) g dg (mksB 1 bs'.length)) := Lib.hid (OwnV.below P0.out hbz (OwnV.lt P0.out))
        have P12 : Hid (Own w28 (w.heap.size + 2) g' dg' (marks ((1 + 3 * bs'.length : Nat) : Int) ts'.length)) := Lib.hid (OwnV.below P1.out hbz (OwnV.lt P1.out))
        clear S
        clear KZ
        clear OZ
        clear KG
        clear P0
        clear P1
        have S := S2
        clear S2
        have KZ := KZ2
        clear KZ2
        have OZ := OZ2
        clear OZ2
        have KG := KG2
        clear KG2
        have P0 := P02
        clear P02
        have P1 := P12
        clear P12
        have KH : Hid (Blk w28 Hh 32 #[.slice (some ⟨h, 0, none⟩) bs'.length dh, .slice (some ⟨h', 0, none⟩) ts'.length dh']) := Lib.hid hkz
        have OH : Hid (LnO w28 (w.heap.size + 2) h dh h' dh' bs' ts') := Lib.hid ⟨OwnV.mono hoz.1 (Nat.le_trans hsz2 hoz.1.le), OwnV.mono hoz.2.1 (Nat.le_trans hsz2 hoz.2.1.le), hoz.2.2⟩
        clear hbz hkz hoz hsz2
        clear y0 y1 y2 y3 n0 n1 n2 n3
        obtain ⟨y0, y1, y2, y3⟩ := S.out.cells
        obtain ⟨b00, b01, _, _⟩ := blkCells2 KH.out
        obtain ⟨b10, b11, _, _⟩ := blkCells2 KZ.out
        go_wp2_with fail
        refine (HEQ.out bs' ts' (by omega) (by omega) _ h dh h' dh' u r u' r' (LnB.own OH.out.1 OH.out.2.1) (LnB.own OZ.out.1 OZ.out.2.1)).mono ?_
        rintro e w29 ⟨rfl, hb⟩
        have S2 : Hid (Lw w w29 A c bs B d ts m s) := Lib.hid (S.out.step hb)
        have KZ2 : Hid (Blk w29 Z 32 #[.slice (some ⟨u, 0, none⟩) bs'.length r, .slice (some ⟨u', 0, none⟩) ts'.length r']) := Lib.hid (KZ.out.below hb KZ.out.lt)
        have OZ2 : Hid (LnO w29 (w.heap.size + 2) u r u' r' bs' ts') := Lib.hid (OZ.out.below hb)
        have KG2 : Hid (Blk w29 G 32 #[.slice (some ⟨g, 0, none⟩) bs'.length dg, .slice (some ⟨g', 0, none⟩) ts'.length dg']) := Lib.hid (KG.out.below hb KG.out.lt)
        have P02 : Hid (OwnB w29 (w.heap.size + 2) g dg (mksB 1 bs'.length)) := Lib.hid (OwnV.below P0.out hb (OwnV.lt P0.out))
        have P12 : Hid (Own w29 (w.heap.size + 2) g' dg' (marks ((1 + 3 * bs'.length : Nat) : Int) ts'.length)) := Lib.hid (OwnV.below P1.out hb (OwnV.lt P1.out))
        have KH2 : Hid (Blk w29 Hh 32 #[.slice (some ⟨h, 0, none⟩) bs'.length dh, .slice (some ⟨h', 0, none⟩) ts'.length dh']) := Lib.hid (KH.out.below hb KH.out.lt)
        have OH2 : Hid (LnO w29 (w.heap.size + 2) h dh h' dh' bs' ts') := Lib.hid (OH.out.below hb)
        clear S
        clear KZ
        clear OZ
        clear KG
        clear P0
        clear P1
        clear KH
        clear OH
        have S := S2
        clear S2
        have KZ := KZ2
        clear KZ2
        have OZ := OZ2
        clear OZ2
        have KG := KG2
        clear KG2
        have P0 := P02
        clear P02
        have P1 := P12
        clear P12
        have KH := KH2
        clear KH2
        have OH := OH2
        clear OH2
        clear hb
        clear y0 y1 y2 y3 b00 b01 b10 b11
        obtain ⟨y0, y1, y2, y3⟩ := S.out.cells
        obtain ⟨b00, b01, _, _⟩ := blkCells2 KG.out
        go_wp2_with fail
        refine (HHD.out _ P0.out.at P1.out.at P0.out.lt P1.out.lt).mono ?_
        rintro e w30 ⟨rfl, hb⟩
        have S2 : Hid (Lw w w30 A c bs B d ts m s) := Lib.hid (S.out.step hb)
        have KZ2 : Hid (Blk w30 Z 32 #[.slice (some ⟨u, 0, none⟩) bs'.length r, .slice (some ⟨u', 0, none⟩) ts'.length r']) := Lib.hid (KZ.out.below hb KZ.out.lt)
        have OZ2 : Hid (LnO w30 (w.heap.size + 2) u r u' r' bs' ts') := Lib.hid (OZ.out.below hb)
        have KG2 : Hid (Blk w30 G 32 #[.slice (some ⟨g, 0, none⟩) bs'.length dg, .slice (some ⟨g', 0, none⟩) ts'.length dg']) := Lib.hid (KG.out.below hb KG.out.lt)
        have P02 : Hid (OwnB w30 (w.heap.size + 2) g dg (mksB 1 bs'.length)) := Lib.hid (OwnV.below P0.out hb (OwnV.lt P0.out))
        have P12 : Hid (Own w30 (w.heap.size + 2) g' dg' (marks ((1 + 3 * bs'.length : Nat) : Int) ts'.length)) := Lib.hid (OwnV.below P1.out hb (OwnV.lt P1.out))
        have KH2 : Hid (Blk w30 Hh 32 #[.slice (some ⟨h, 0, none⟩) bs'.length dh, .slice (some ⟨h', 0, none⟩) ts'.length dh']) := Lib.hid (KH.out.below hb KH.out.lt)
        have OH2 : Hid (LnO w30 (w.heap.size + 2) h dh h' dh' bs' ts') := Lib.hid (OH.out.below hb)
        clear S
        clear KZ
        clear OZ
        clear KG
        clear P0
        clear P1
        clear KH
        clear OH
        have S := S2
        clear S2
        have KZ := KZ2
        clear KZ2
        have OZ := OZ2
        clear OZ2
        have KG := KG2
        clear KG2
        have P0 := P02
        clear P02
        have P1 := P12
        clear P12
        have KH := KH2
        clear KH2
        have OH := OH2
        clear OH2
        clear hb
        clear y0 y1 y2 y3 b00 b01
        go_wp2_with fail
        go_ret
        exact ⟨rfl, S.out.1⟩
    · rw [if_neg hs1] at hsm
      have HSM := Lib.hid hsm
      clear hsz hsm
      go_enter Try.func3, Try.ntmps3
      go_wp2_with fail
      refine (HSZ.out _).mono ?_
      rintro e w2 ⟨rfl, hb2⟩
      have S := Lib.hid (S1.out.step hb2)
      obtain ⟨y0, y1, y2, y3⟩ := S.out.cells
      clear hb2 S1
      go_wp2_with fail
      refine (HSM.out _).mono ?_
      rintro e w3 ⟨rfl, hb3⟩
      have S3 := Lib.hid (S.out.step hb3)
      go_wp2_with fail
      go_ret
      exact ⟨rfl, S3.out.1⟩
  · rw [if_neg hbig] at hsz
    have HSZ := Lib.hid hsz
    clear hsz
    go_enter Try.func3, Try.ntmps3
    go_wp2_with fail
    refine (HSZ.out _).mono ?_
    rintro e w2 ⟨rfl, hb2⟩
    have S2 := Lib.hid (S1.out.step hb2)
    go_wp2_with fail
    go_ret
    exact ⟨rfl, S2.out.1⟩
end Go.Proofs.Ytmgakfbchhefcaa
