/-
  Lines: DrawLineRun. No condition.
-/
import Derived.Test.YtmgakfbchhefcaaLn27
import Derived.Test.YtmgakfbchhefcaaLn23
namespace Go.Proofs.Ytmgakfbchhefcaa
open Go.RowKit
set_option linter.unusedVariables false
set_option linter.unusedSimpArgs false

/-- What drawing a line and moves leaves. -/
def DLnR (w : World) (e : Ending) (w' : World) : Prop := ∃ (bs : List BV) (ts : List Int) (g d g' d' : Nat) (ms : List MV) (a cm : Nat), e = .returned (.tuple #[.agg #[.slice (some ⟨g, 0, none⟩) bs.length d, .slice (some ⟨g', 0, none⟩) ts.length d'], .slice (some ⟨a, 0, none⟩) ms.length cm]) ∧ LnB w' g g' bs ts ∧ bs.length ≤ 4 ∧ ts.length ≤ 5 ∧ ShortL ms ∧ ms.length ≤ 12 ∧ OwnMv w' w.heap.size a cm ms.length ms ∧ Below w.heap.size w w'
set_option maxHeartbeats 3200000 in
theorem draw_lrun (A : Option Addr) (c m : Nat) (w : World) (hmc : m ≤ c) (hc : c ≤ 9223372036854775807) (hr : ByteRow w w.heap.size A m) :
    Calls Try.prog 23 #[.slice A m c] w (DLnR w) := by
  have HO := Lib.hid (open_any w.heap.size A m c (w.alloc (.cells #[.slice none 0 0, .slice none 0 0] 32)) (by simp) hmc hc (hr.keep fun b hb => Below.heap_alloc w _ b hb))
  have S1 : Hid (Below w.heap.size w (w.alloc (.cells #[.slice none 0 0, .slice none 0 0] 32)) ∧ Blk (w.alloc (.cells #[.slice none 0 0, .slice none 0 0] 32)) w.heap.size 32 #[.slice none 0 0, .slice none 0 0]) := Lib.hid ⟨below_new w _, Blk.new _ _ _⟩
  clear hr
  go_enter Try.func23, Try.ntmps23
  go_wp2_with fail
  generalize w.alloc (.cells #[.slice none 0 0, .slice none 0 0] 32) = W1 at *
  refine HO.out.mono ?_
  rintro e w2 ⟨rfl, hr2, hb2⟩
  have R2 := Lib.hid hr2
  have B2 := Lib.hid (below_to S1.out.1 hb2 S1.out.1.size)
  have K2 := Lib.hid (S1.out.2.below hb2 S1.out.2.lt)
  have NE : Hid (w.heap.size < W1.heap.size) := Lib.hid S1.out.2.lt
  have NL := Lib.hid hr2.lt
  clear hr2 hb2
  go_wp2_with fail
  refine (l92Line_any w.heap.size W1.heap.size 0 _ (by omega) R2.out).mono ?_
  rintro e w3 ⟨bs, ts, g, d, g', d', q, rfl, ho, hn, hm, hq, hr3, hg3⟩
  have D4 : Hid (Dk w (w3.alloc (.cells #[.slice (some ⟨g, 0, none⟩) bs.length d, .slice (some ⟨g', 0, none⟩) ts.length d'] 32)) W1.heap.size q w3.heap.size g d g' d' bs ts) := Lib.hid (by
    have h1 := NE.out
    have h2 := NL.out
    have h3 := ho.1.le
    have h4 := ho.2.1.le
    have h5 := hr3.lt
    have h6 := K2.out.lt
    exact ⟨below_new' (below_app B2.out hg3 (by omega)) _, hr3.alloc _, (K2.out.grown hg3 (by intro e; injection e; omega)).alloc _, Blk.new _ _ _, ⟨OwnV.alloc (OwnV.mono ho.1 (by omega)) _, OwnV.alloc (OwnV.mono ho.2.1 (by omega)) _, ho.2.2⟩, h1, by omega, by omega, by omega, by omega⟩)
  clear hr3 hg3 ho K2 B2 R2
  go_upto_region 3 with fail
  generalize w3.alloc (.cells #[.slice (some ⟨g, 0, none⟩) bs.length d, .slice (some ⟨g', 0, none⟩) ts.length d'] 32) = W4 at *
  generalize w3.heap.size = P at *
  generalize W1.heap.size = R at *
  obtain ⟨c0, c1, _, _⟩ := blkCells2 D4.out.2.2.2.1
  have hq2 : q ≤ 40 := by omega
  have nP : w.heap.size ≠ P := by have := D4.out.2.2.2.2.2.2.2.2.2; omega
  have nP' : P ≠ w.heap.size := fun e => nP e.symm
  go_region_held3 (fun w' => w'.cell? ⟨P, 0, none⟩ = some (.slice (some ⟨g, 0, none⟩) bs.length d) ∧ w'.cell? ⟨P, 1, none⟩ = some (.slice (some ⟨g', 0, none⟩) ts.length d')) (go_keep) ((go_at_call 62; go_must (go_fit (l92Moves_any w.heap.size R q g d g' d' bs ts _ (by omega) D4.out.drew.2.1 (by omega) (by omega) _ D4.out.drew.2.2.2.2.1); rintro e w5 ⟨ms, a, cm, q5, rfl, hO5, hS5, hL5, hq5, hr5, hg5⟩; have D5 := Lib.hid (D4.out.drew.move hg5 hr5); have A5 := Lib.hid hO5; have NA : Hid (w.heap.size < a ∧ P ≠ a ∧ g ≠ a ∧ g' ≠ a) := Lib.hid (by have l1 := OwnV.le hO5; have l2 := D4.out.2.2.2.1.lt; have l3 := D4.out.2.2.2.2.1.1.lt; have l4 := D4.out.2.2.2.2.1.2.1.lt; have l5 := D4.out.2.2.2.2.2.2.2.2.2; simp -failIfUnchanged at l1; omega); obtain ⟨d0, d1, _, _⟩ := blkCells2 D5.out.2.2.2.1; obtain ⟨r0, r1, r2, r3⟩ := blkCells2 D5.out.2.2.1; clear hr5 hg5 hO5)))
  all_goals
    have F1 := store2 D5.out.1 (Nat.le_refl _) D5.out.2.2.1 (.slice (some ⟨g, 0, none⟩) bs.length d) (.slice (some ⟨g', 0, none⟩) ts.length d')
    have GE : w.heap.size < g ∧ w.heap.size < g' := ⟨D5.out.2.2.2.2.1.1.le, D5.out.2.2.2.2.1.2.1.le⟩
    have G := (D5.out.2.2.2.2.1.far (p := ⟨w.heap.size, 0, none⟩) (by show g ≠ w.heap.size; omega) (by show g' ≠ w.heap.size; omega) (.slice (some ⟨g, 0, none⟩) bs.length d)).far (p := ⟨w.heap.size, 1, none⟩) (by show g ≠ w.heap.size; omega) (by show g' ≠ w.heap.size; omega) (.slice (some ⟨g', 0, none⟩) ts.length d')
    have AA := OwnV.far (OwnV.far A5.out (p := ⟨w.heap.size, 0, none⟩) (by show a ≠ w.heap.size; have := NA.out; omega) (.slice (some ⟨g, 0, none⟩) bs.length d)) (p := ⟨w.heap.size, 1, none⟩) (by show a ≠ w.heap.size; have := NA.out; omega) (.slice (some ⟨g', 0, none⟩) ts.length d')
    clear c0 c1 d0 d1
    have FF := Lib.hid F1
    have GG := Lib.hid G
    have HA := Lib.hid (show OwnMv _ w.heap.size a cm ms.length ms from OwnV.mono AA (by have := NA.out; omega))
    clear F1 G AA GE
    go_wp2_with fail
    exact bodyPost_ret (v := .tuple #[.agg #[.slice (some ⟨g, 0, none⟩) bs.length d, .slice (some ⟨g', 0, none⟩) ts.length d'], .slice (some ⟨a, 0, none⟩) ms.length cm]) (by have r0 := FF.out.2.1; have r1 := FF.out.2.2; simp [results, Try.results23, go_sem, r0, r1]) rfl ⟨bs, ts, g, d, g', d', ms, a, cm, rfl, LnB.own GG.out.1 GG.out.2.1, hn.2, hm, hS5, hL5, HA.out, FF.out.1⟩
end Go.Proofs.Ytmgakfbchhefcaa
