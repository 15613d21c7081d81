/-
  Lines: the drawn move (l92Move), DrawLineStep. No condition.
-/
import Derived.Test.YtmgakfbchhefcaaLn22
namespace Go.Proofs.Ytmgakfbchhefcaa
open Go.RowKit
set_option linter.unusedVariables false
set_option linter.unusedSimpArgs false

/-- What drawing a move leaves. -/
def SomeMove (w : World) (base R p : Nat) (e : Ending) (w' : World) : Prop := ∃ (k : Int) (s : ByteArray) (q : Nat), e = .returned (.agg #[.int .i64 k, .string s]) ∧ s.size ≤ 8 ∧ -1048576 ≤ k ∧ k ≤ 1048576 ∧ q ≤ p + 4 ∧ Rdr w' base R q ∧ w.grownBy w' (some R)
/-- The reader, the result's box. -/
def Mk (w W : World) (base R q Q : Nat) : Prop := w.grownBy W (some R) ∧ Rdr W base R q ∧ Blk W Q 36 #[.int .i64 0, .string ⟨#[]⟩] ∧ w.heap.size ≤ Q ∧ R < w.heap.size
theorem Mk.step {w W W' : World} {base R q Q : Nat} (h : Mk w W base R q Q) (k : Below W.heap.size W W') : Mk w W' base R q Q := ⟨gbB h.1 k, rdB h.2.1 k, h.2.2.1.below k h.2.2.1.lt, h.2.2.2⟩
theorem Mk.pick {w W W' : World} {base R q Q : Nat} (h : Mk w W base R q Q) (k : W.grownBy W' (some R)) (hr : Rdr W' base R (q + 1)) : Mk w W' base R (q + 1) Q := ⟨grownBy_trans h.1 k, hr, blkG k h.2.2.1 (by have := h.2.2.2; omega), h.2.2.2⟩
theorem Mk.drew {w W : World} {base R q Q : Nat} (h : Mk w W base R q Q) : Mk w W.drew base R q Q := ⟨gbD h.1, rdD h.2.1, h.2.2⟩
theorem Mk.fin {w W : World} {base R q Q : Nat} (h : Mk w W base R q Q) (u v : Value) :
    ((W.setCell ⟨Q, 0, none⟩ u).setCell ⟨Q, 1, none⟩ v).cell? ⟨Q, 0, none⟩ = some u ∧ ((W.setCell ⟨Q, 0, none⟩ u).setCell ⟨Q, 1, none⟩ v).cell? ⟨Q, 1, none⟩ = some v ∧ Rdr ((W.setCell ⟨Q, 0, none⟩ u).setCell ⟨Q, 1, none⟩ v) base R q ∧ w.grownBy ((W.setCell ⟨Q, 0, none⟩ u).setCell ⟨Q, 1, none⟩ v) (some R) := by
  obtain ⟨h1, h2, h3, h4, h5⟩ := h
  have k := (h3.set_ 0 u).set_ 1 v
  refine ⟨?_, ?_, rdS (rdS h2 (by omega) _) (by omega) _, gbS (gbS h1 (by omega) _) (by omega) _⟩
  · rw [k.cell 0]; simp
  · rw [k.cell 1]; simp
theorem nine_size {s : Bs} (h : s ∈ [(⟨#[111]⟩ : Bs), ⟨#[97]⟩, ⟨#[101]⟩, ⟨#[108]⟩, ⟨#[102]⟩, ⟨#[114]⟩, ⟨#[99]⟩, ⟨#[]⟩, ⟨#[120]⟩]) : s.size ≤ 8 := by
  simp only [List.mem_cons, List.not_mem_nil, or_false] at h
  rcases h with rfl | rfl | rfl | rfl | rfl | rfl | rfl | rfl | rfl <;> decide
set_option maxHeartbeats 6400000 in
theorem l92Move_any (base R p g d g' d' : Nat) (bs : List BV) (ts : List Int) (w : World) (hp : p ≤ 100000) (hr : Rdr w base R p) (hn : bs.length ≤ 1048576) (hm : ts.length ≤ 1048576) (hb : g < w.heap.size) (ht : g' < w.heap.size) (ha : AtBl w g 0 bs) (hi : AtInts w g' 0 ts) :
    Calls Try.prog 78 #[.pointer (some ⟨R, 0, none⟩), .agg #[.slice (some ⟨g, 0, none⟩) bs.length d, .slice (some ⟨g', 0, none⟩) ts.length d']] w (SomeMove w base R p) := by
  have hL := LnAt.new (c := d) (c' := d') hb ht ha hi
  have BW := below_new w (.cells #[.slice (some ⟨g, 0, none⟩) bs.length d, .slice (some ⟨g', 0, none⟩) ts.length d'] 32)
  have S2 : Hid (Mk w ((w.alloc (.cells #[.slice (some ⟨g, 0, none⟩) bs.length d, .slice (some ⟨g', 0, none⟩) ts.length d'] 32)).alloc (.cells #[.int .i64 0, .string ⟨#[]⟩] 36)) base R p (w.heap.size + 1) ∧ LnAt ((w.alloc (.cells #[.slice (some ⟨g, 0, none⟩) bs.length d, .slice (some ⟨g', 0, none⟩) ts.length d'] 32)).alloc (.cells #[.int .i64 0, .string ⟨#[]⟩] 36)) w.heap.size g d g' d' bs ts) := Lib.hid ⟨⟨gbA (gbA gbR), rdA (rdA hr), by simpa using Blk.new (w.alloc (.cells #[.slice (some ⟨g, 0, none⟩) bs.length d, .slice (some ⟨g', 0, none⟩) ts.length d'] 32)) 36 #[.int .i64 0, .string ⟨#[]⟩], by omega, hr.lt⟩, hL.below (below_new _ _)⟩
  clear hL BW ha hi hr
  go_enter Try.func78, Try.ntmps78
  go_upto_region 1 with fail
  generalize (w.alloc (.cells #[.slice (some ⟨g, 0, none⟩) bs.length d, .slice (some ⟨g', 0, none⟩) ts.length d'] 32)).alloc (.cells #[.int .i64 0, .string ⟨#[]⟩] 36) = W2 at *
  have c0 := S2.out.2.cell0
  have c1 := S2.out.2.cell1
  go_wp2_with fail
  refine (specMoves_any g d g' d' bs ts W2 hn hm S2.out.2.2.2.2.1 S2.out.2.2.2.2.2 S2.out.2.2.1 S2.out.2.2.2.1).mono ?_
  rintro e w3 ⟨ms, h, f, rfl, ho3, hsh, hml, hb3⟩
  have M3 := Lib.hid (S2.out.1.step hb3)
  have O3 := Lib.hid ho3
  have HSH := Lib.hid hsh
  have NH : Hid (h ≠ R) := Lib.hid (by have := ho3.le; have := S2.out.1.2.1.lt; omega)
  clear c0 c1 S2 hb3 ho3 hsh
  by_cases h0 : 0 < ms.length
  · have t0 := dec_t (show (0 : Int) < (ms.length : Int) by omega)
    go_wp2_with fail
    refine (pick_any base R p 4 _ (by omega) (by omega) M3.out.2.1).mono ?_
    rintro e w4 ⟨x, rfl, hx, hr4, hg4⟩
    have hx4 : x < 4 := by have := hx (by omega); omega
    have M4 := Lib.hid (M3.out.pick hg4 hr4)
    have O4 : Hid (OwnMv w4 W2.heap.size h f ms.length ms) := Lib.hid (OwnV.grown O3.out hg4 (by intro e; injection e; exact NH.out (by assumption)))
    clear hr4 hg4 hx M3 O3
    by_cases hx0 : 0 < x
    · have t1 := dec_t (show (0 : Int) < (x : Int) by omega)
      go_wp2_with fail
      refine (pick_any base R (p + 1) ms.length _ (by omega) (by omega) M4.out.2.1).mono ?_
      rintro e w5 ⟨y, rfl, hy, hr5, hg5⟩
      have hy4 : y < ms.length := by have := hy (by omega); omega
      have i1 : (y : Int) < (ms.length : Int) := by omega
      have M5 := Lib.hid (M4.out.pick hg5 hr5)
      have O5 : Hid (OwnMv w5 W2.heap.size h f ms.length ms) := Lib.hid (OwnV.grown O4.out hg5 (by intro e; injection e; exact NH.out (by assumption)))
      clear hr5 hg5 hy M4 O4
      obtain ⟨c2, c3⟩ := O5.out.at y hy4
      obtain ⟨hs, hk⟩ := HSH.out y hy4
      generalize ms.getD y Z2m = mv at *
      obtain ⟨k, s⟩ := mv
      simp only [Nat.zero_add] at c2 c3 hs hk
      have hkb : -1048576 ≤ k ∧ k ≤ 1048576 := by
        obtain ⟨o, ho⟩ := Option.ne_none_iff_exists'.1 hk
        obtain ⟨_, m, rfl, hm', _⟩ := stepV_parts ho
        omega
      clear hk
      obtain ⟨r0, r1, r2, r3⟩ := blkCells2 M5.out.2.2.1
      have F := Mk.fin M5.out (.int .i64 k) (.string s)
      have FF := Lib.hid F
      clear F
      go_wp2_with fail
      exact bodyPost_ret (v := .agg #[.int .i64 k, .string s]) (by have r0 := FF.out.1; have r1 := FF.out.2.1; simp [results, Try.results78, go_sem, r0, r1]) rfl ⟨k, s, (p + 1 + 1), rfl, hs, by omega, by omega, by omega, FF.out.2.2.1, FF.out.2.2.2⟩
    · have t1 := dec_f (show ¬ (0 : Int) < (x : Int) by omega)
      go_wp2_with fail
      refine (pick_any base R (p + 1) 6 _ (by omega) (by omega) M4.out.2.1).mono ?_
      rintro e w8 ⟨y, rfl, hy, hr8, hg8⟩
      have hy6 : y < 6 := by have := hy (by omega); omega
      have M8 := Lib.hid (M4.out.pick hg8 hr8)
      have u8 : IntKind.i64.wrap ((y : Int) - 1) = (y : Int) - 1 := IntWalk.i64_in _ (by omega)
      have hof := of_any base R (p + 1 + 1) w8.heap.size [⟨#[111]⟩, ⟨#[97]⟩, ⟨#[101]⟩, ⟨#[108]⟩, ⟨#[102]⟩, ⟨#[114]⟩, ⟨#[99]⟩, ⟨#[]⟩, ⟨#[120]⟩] _ (by omega) (hr8.alloc (.cells #[.string ⟨#[111]⟩, .string ⟨#[97]⟩, .string ⟨#[101]⟩, .string ⟨#[108]⟩, .string ⟨#[102]⟩, .string ⟨#[114]⟩, .string ⟨#[99]⟩, .string ⟨#[]⟩, .string ⟨#[120]⟩] 9)) (Nat.ne_of_gt hr8.lt) (by simp) (by simp) (atStrs_new w8 9 [⟨#[111]⟩, ⟨#[97]⟩, ⟨#[101]⟩, ⟨#[108]⟩, ⟨#[102]⟩, ⟨#[114]⟩, ⟨#[99]⟩, ⟨#[]⟩, ⟨#[120]⟩])
      have HOF := Lib.hid hof
      clear hr8 hg8 hy M4 hof
      go_wp2_with fail
      refine HOF.out.mono ?_
      rintro e w9 ⟨s, hs, rfl, hr9, hg9⟩
      have hs8 := nine_size hs
      have M9 := Lib.hid (Mk.pick (M8.out.step (below_new _ (.cells #[.string ⟨#[111]⟩, .string ⟨#[97]⟩, .string ⟨#[101]⟩, .string ⟨#[108]⟩, .string ⟨#[102]⟩, .string ⟨#[114]⟩, .string ⟨#[99]⟩, .string ⟨#[]⟩, .string ⟨#[120]⟩] 9))) hg9 hr9)
      clear hr9 hg9 hs HOF M8

      obtain ⟨r0, r1, r2, r3⟩ := blkCells2 M9.out.2.2.1
      have F := Mk.fin M9.out (.int .i64 ((y : Int) - 1)) (.string s)
      have FF := Lib.hid F
      clear F
      go_wp2_with fail
      exact bodyPost_ret (v := .agg #[.int .i64 ((y : Int) - 1), .string s]) (by have r0 := FF.out.1; have r1 := FF.out.2.1; simp [results, Try.results78, go_sem, r0, r1]) rfl ⟨((y : Int) - 1), s, (p + 1 + 1 + 1), rfl, hs8, by omega, by omega, by omega, FF.out.2.2.1, FF.out.2.2.2⟩
  · have t0 := dec_f (show ¬ (0 : Int) < (ms.length : Int) by omega)
    go_wp2_with fail
    refine (pick_any base R (p) 6 _ (by omega) (by omega) M3.out.2.1).mono ?_
    rintro e w8 ⟨y, rfl, hy, hr8, hg8⟩
    have hy6 : y < 6 := by have := hy (by omega); omega
    have M8 := Lib.hid (M3.out.pick hg8 hr8)
    have u8 : IntKind.i64.wrap ((y : Int) - 1) = (y : Int) - 1 := IntWalk.i64_in _ (by omega)
    have hof := of_any base R (p + 1) w8.heap.size [⟨#[111]⟩, ⟨#[97]⟩, ⟨#[101]⟩, ⟨#[108]⟩, ⟨#[102]⟩, ⟨#[114]⟩, ⟨#[99]⟩, ⟨#[]⟩, ⟨#[120]⟩] _ (by omega) (hr8.alloc (.cells #[.string ⟨#[111]⟩, .string ⟨#[97]⟩, .string ⟨#[101]⟩, .string ⟨#[108]⟩, .string ⟨#[102]⟩, .string ⟨#[114]⟩, .string ⟨#[99]⟩, .string ⟨#[]⟩, .string ⟨#[120]⟩] 9)) (Nat.ne_of_gt hr8.lt) (by simp) (by simp) (atStrs_new w8 9 [⟨#[111]⟩, ⟨#[97]⟩, ⟨#[101]⟩, ⟨#[108]⟩, ⟨#[102]⟩, ⟨#[114]⟩, ⟨#[99]⟩, ⟨#[]⟩, ⟨#[120]⟩])
    have HOF := Lib.hid hof
    clear hr8 hg8 hy M3 hof
    go_wp2_with fail
    refine HOF.out.mono ?_
    rintro e w9 ⟨s, hs, rfl, hr9, hg9⟩
    have hs8 := nine_size hs
    have M9 := Lib.hid (Mk.pick (M8.out.step (below_new _ (.cells #[.string ⟨#[111]⟩, .string ⟨#[97]⟩, .string ⟨#[101]⟩, .string ⟨#[108]⟩, .string ⟨#[102]⟩, .string ⟨#[114]⟩, .string ⟨#[99]⟩, .string ⟨#[]⟩, .string ⟨#[120]⟩] 9))) hg9 hr9)
    clear hr9 hg9 hs HOF M8

    obtain ⟨r0, r1, r2, r3⟩ := blkCells2 M9.out.2.2.1
    have F := Mk.fin M9.out (.int .i64 ((y : Int) - 1)) (.string s)
    have FF := Lib.hid F
    clear F
    go_wp2_with fail
    exact bodyPost_ret (v := .agg #[.int .i64 ((y : Int) - 1), .string s]) (by have r0 := FF.out.1; have r1 := FF.out.2.1; simp [results, Try.results78, go_sem, r0, r1]) rfl ⟨((y : Int) - 1), s, (p + 1 + 1), rfl, hs8, by omega, by omega, by omega, FF.out.2.2.1, FF.out.2.2.2⟩

/-- What drawing a line and a move leaves. -/
def DLnS (w : World) (e : Ending) (w' : World) : Prop := ∃ (bs : List BV) (ts : List Int) (g d g' d' : Nat) (k : Int) (s : ByteArray), e = .returned (.tuple #[.agg #[.slice (some ⟨g, 0, none⟩) bs.length d, .slice (some ⟨g', 0, none⟩) ts.length d'], .agg #[.int .i64 k, .string s]]) ∧ LnB w' g g' bs ts ∧ bs.length ≤ 4 ∧ ts.length ≤ 5 ∧ -1048576 ≤ k ∧ k ≤ 1048576 ∧ s.size ≤ 8 ∧ Below w.heap.size w w'
theorem Dk.move {w W W' : World} {R p p' P g d g' d' : Nat} {bs : List BV} {ts : List Int} (h : Dk w W R p P g d g' d' bs ts) (k : W.grownBy W' (some R)) (hr : Rdr W' w.heap.size R p') : Dk w W' R p' P g d g' d' bs ts := by
  obtain ⟨h1, h2, h3, h4, ⟨h5, h6, h7⟩, h8, h9, h10, h11, h12⟩ := h
  exact ⟨below_app h1 k (by omega), hr, h3.grown k (by intro e; injection e; omega), h4.grown k (by intro e; injection e; omega), ⟨OwnV.grown h5 k (by intro e; injection e; omega), OwnV.grown h6 k (by intro e; injection e; omega), h7⟩, h8, h9, h10, h11, h12⟩
/-- The same and the move's cells. -/
def Dks (w W : World) (R p P g d g' d' : Nat) (bs : List BV) (ts : List Int) : Prop := Dk w W R p P g d g' d' bs ts ∧ Blk W (w.heap.size + 1) 36 #[.int .i64 0, .string ⟨#[]⟩] ∧ w.heap.size + 1 < R ∧ w.heap.size + 1 < g ∧ w.heap.size + 1 < g' ∧ w.heap.size + 1 < P
theorem Dks.drew {w W : World} {R p P g d g' d' : Nat} {bs : List BV} {ts : List Int} (h : Dks w W R p P g d g' d' bs ts) : Dks w W.drew R p P g d g' d' bs ts := ⟨h.1.drew, h.2⟩
theorem Dks.move {w W W' : World} {R p p' P g d g' d' : Nat} {bs : List BV} {ts : List Int} (h : Dks w W R p P g d g' d' bs ts) (k : W.grownBy W' (some R)) (hr : Rdr W' w.heap.size R p') : Dks w W' R p' P g d g' d' bs ts :=
  ⟨h.1.move k hr, h.2.1.grown k (by intro e; injection e; have := h.2.2.1; omega), h.2.2⟩
theorem store4c {W : World} {R S : Nat} {T : TypeId} {a0 b0 : Value} (k : Blk W R T #[a0, b0]) (hne : R ≠ S) (a b x y : Value) :
    ((((W.setCell ⟨R, 0, none⟩ a).setCell ⟨R, 1, none⟩ b).setCell ⟨S, 0, none⟩ x).setCell ⟨S, 1, none⟩ y).cell? ⟨R, 0, none⟩ = some a ∧ ((((W.setCell ⟨R, 0, none⟩ a).setCell ⟨R, 1, none⟩ b).setCell ⟨S, 0, none⟩ x).setCell ⟨S, 1, none⟩ y).cell? ⟨R, 1, none⟩ = some b := by
  have k1 := (((k.set_ 0 a).set_ 1 b).far (p := ⟨S, 0, none⟩) hne x).far (p := ⟨S, 1, none⟩) hne y
  refine ⟨?_, ?_⟩
  · rw [k1.cell 0]; simp
  · rw [k1.cell 1]; simp
set_option maxHeartbeats 3200000 in
theorem draw_lstep (A : Option Addr) (c m : Nat) (w : World) (hmc : m ≤ c) (hc : c ≤ 9223372036854775807) (hr : ByteRow w w.heap.size A m) :
    Calls Try.prog 44 #[.slice A m c] w (DLnS w) := by
  have HO := Lib.hid (open_any w.heap.size A m c ((w.alloc (.cells #[.slice none 0 0, .slice none 0 0] 32)).alloc (.cells #[.int .i64 0, .string ⟨#[]⟩] 36)) (by simp; omega) hmc hc ((hr.keep fun b hb => Below.heap_alloc w _ b hb).keep fun b hb => Below.heap_alloc _ _ b (by simp; omega)))
  have S1 : Hid (Below w.heap.size w ((w.alloc (.cells #[.slice none 0 0, .slice none 0 0] 32)).alloc (.cells #[.int .i64 0, .string ⟨#[]⟩] 36)) ∧ Blk ((w.alloc (.cells #[.slice none 0 0, .slice none 0 0] 32)).alloc (.cells #[.int .i64 0, .string ⟨#[]⟩] 36)) w.heap.size 32 #[.slice none 0 0, .slice none 0 0] ∧ Blk ((w.alloc (.cells #[.slice none 0 0, .slice none 0 0] 32)).alloc (.cells #[.int .i64 0, .string ⟨#[]⟩] 36)) (w.heap.size + 1) 36 #[.int .i64 0, .string ⟨#[]⟩]) := Lib.hid ⟨below_new' (below_new w _) _, (Blk.new _ _ _).alloc _, by simpa using Blk.new (w.alloc (.cells #[.slice none 0 0, .slice none 0 0] 32)) 36 #[.int .i64 0, .string ⟨#[]⟩]⟩
  clear hr
  go_enter Try.func44, Try.ntmps44
  go_wp2_with fail
  generalize (w.alloc (.cells #[.slice none 0 0, .slice none 0 0] 32)).alloc (.cells #[.int .i64 0, .string ⟨#[]⟩] 36) = W1 at *
  refine HO.out.mono ?_
  rintro e w2 ⟨rfl, hr2, hb2⟩
  have R2 := Lib.hid hr2
  have B2 := Lib.hid (below_to S1.out.1 hb2 S1.out.1.size)
  have K2 := Lib.hid (S1.out.2.1.below hb2 S1.out.2.1.lt)
  have J2 := Lib.hid (S1.out.2.2.below hb2 S1.out.2.2.lt)
  have NE : Hid (w.heap.size + 1 < W1.heap.size) := Lib.hid S1.out.2.2.lt
  have NL := Lib.hid hr2.lt
  clear hr2 hb2
  go_wp2_with fail
  refine (l92Line_any w.heap.size W1.heap.size 0 _ (by omega) R2.out).mono ?_
  rintro e w3 ⟨bs, ts, g, d, g', d', q, rfl, ho, hn, hm, hq, hr3, hg3⟩
  have D4 : Hid (Dks w (w3.alloc (.cells #[.slice (some ⟨g, 0, none⟩) bs.length d, .slice (some ⟨g', 0, none⟩) ts.length d'] 32)) W1.heap.size q w3.heap.size g d g' d' bs ts) := Lib.hid (by
    have h1 := NE.out
    have h2 := NL.out
    have h3 := ho.1.le
    have h4 := ho.2.1.le
    have h5 := hr3.lt
    have h6 := K2.out.lt
    exact ⟨⟨below_new' (below_app B2.out hg3 (by omega)) _, hr3.alloc _, (K2.out.grown hg3 (by intro e; injection e; omega)).alloc _, Blk.new _ _ _, ⟨OwnV.alloc (OwnV.mono ho.1 (by omega)) _, OwnV.alloc (OwnV.mono ho.2.1 (by omega)) _, ho.2.2⟩, by omega, by omega, by omega, by omega, by omega⟩, (J2.out.grown hg3 (by intro e; injection e; omega)).alloc _, by omega, by omega, by omega, by omega⟩)
  clear hr3 hg3 ho K2 B2 R2 J2
  go_upto_region 3 with fail
  generalize w3.alloc (.cells #[.slice (some ⟨g, 0, none⟩) bs.length d, .slice (some ⟨g', 0, none⟩) ts.length d'] 32) = W4 at *
  generalize w3.heap.size = P at *
  generalize W1.heap.size = R at *
  obtain ⟨c0, c1, _, _⟩ := blkCells2 D4.out.1.2.2.2.1
  have hq2 : q ≤ 40 := by omega
  have nP : w.heap.size ≠ P := by have := D4.out.1.2.2.2.2.2.2.2.2.2; omega
  have nP' : P ≠ w.heap.size := fun e => nP e.symm
  have nQ : w.heap.size + 1 ≠ P := by have := D4.out.2.2.2.2.2; omega
  have nQ' : P ≠ w.heap.size + 1 := fun e => nQ e.symm
  go_region_held3 (fun w' => w'.cell? ⟨P, 0, none⟩ = some (.slice (some ⟨g, 0, none⟩) bs.length d) ∧ w'.cell? ⟨P, 1, none⟩ = some (.slice (some ⟨g', 0, none⟩) ts.length d')) (go_keep) ((go_at_call 78; go_must (go_fit (l92Move_any w.heap.size R q g d g' d' bs ts _ (by omega) D4.out.1.drew.2.1 (by omega) (by omega) D4.out.1.drew.2.2.2.2.1.1.lt D4.out.1.drew.2.2.2.2.1.2.1.lt D4.out.1.drew.2.2.2.2.1.1.at D4.out.1.drew.2.2.2.2.1.2.1.at); rintro e w5 ⟨k, s, q5, rfl, hs, hk1, hk2, hq5, hr5, hg5⟩; have D5 := Lib.hid (D4.out.drew.move hg5 hr5); obtain ⟨d0, d1, _, _⟩ := blkCells2 D5.out.1.2.2.2.1; obtain ⟨r0, r1, r2, r3⟩ := blkCells2 D5.out.1.2.2.1; obtain ⟨s0, s1, s2, s3⟩ := blkCells2 D5.out.2.1; clear hr5 hg5)))
  all_goals
    have F1 := store2 D5.out.1.1 (Nat.le_refl _) D5.out.1.2.2.1 (.slice (some ⟨g, 0, none⟩) bs.length d) (.slice (some ⟨g', 0, none⟩) ts.length d')
    have GE := D5.out.2.2
    have JK := ((D5.out.2.1.far (p := ⟨w.heap.size, 0, none⟩) (by show w.heap.size + 1 ≠ w.heap.size; omega) (.slice (some ⟨g, 0, none⟩) bs.length d)).far (p := ⟨w.heap.size, 1, none⟩) (by show w.heap.size + 1 ≠ w.heap.size; omega) (.slice (some ⟨g', 0, none⟩) ts.length d'))
    have F2 := store2 F1.1 (show w.heap.size ≤ w.heap.size + 1 by omega) JK (.int .i64 k) (.string s)
    have CC := Lib.hid (store4c (S := w.heap.size + 1) D5.out.1.2.2.1 (by omega) (.slice (some ⟨g, 0, none⟩) bs.length d) (.slice (some ⟨g', 0, none⟩) ts.length d') (.int .i64 k) (.string s))
    have G := (((D5.out.1.2.2.2.2.1.far (p := ⟨w.heap.size, 0, none⟩) (by show g ≠ w.heap.size; omega) (by show g' ≠ w.heap.size; omega) (.slice (some ⟨g, 0, none⟩) bs.length d)).far (p := ⟨w.heap.size, 1, none⟩) (by show g ≠ w.heap.size; omega) (by show g' ≠ w.heap.size; omega) (.slice (some ⟨g', 0, none⟩) ts.length d')).far (p := ⟨w.heap.size + 1, 0, none⟩) (by show g ≠ w.heap.size + 1; omega) (by show g' ≠ w.heap.size + 1; omega) (.int .i64 k)).far (p := ⟨w.heap.size + 1, 1, none⟩) (by show g ≠ w.heap.size + 1; omega) (by show g' ≠ w.heap.size + 1; omega) (.string s)
    clear c0 c1 d0 d1 F1 JK
    have FF := Lib.hid F2
    have GG := Lib.hid G
    clear F2 G GE
    go_wp2_with fail
    exact bodyPost_ret (v := .tuple #[.agg #[.slice (some ⟨g, 0, none⟩) bs.length d, .slice (some ⟨g', 0, none⟩) ts.length d'], .agg #[.int .i64 k, .string s]]) (by have r0 := FF.out.2.1; have r1 := FF.out.2.2; have r2 := CC.out.1; have r3 := CC.out.2; simp [results, Try.results44, go_sem, r0, r1, r2, r3]) rfl ⟨bs, ts, g, d, g', d', k, s, rfl, LnB.own GG.out.1 GG.out.2.1, hn.2, hm, hk1, hk2, hs, FF.out.1⟩
end Go.Proofs.Ytmgakfbchhefcaa
