/-
  CountsPulse and CountsRun of the reference: what they hand back. No condition but lengths that fit and numbers that are ints.
-/
import Derived.Test.YtgjgedmciiolmaaPulse
namespace Go.Proofs.Ytgjgedmciiolmaa
open Go.RowKit
set_option linter.unusedVariables false

def pulV (zs : List Int) (p : Int) : List Int × Bool := if cvB zs = true then (if okP zs p = true then (plL zs p, true) else ([], false)) else ([], false)
theorem runV_one (zs : List Int) (p : Int) : runV zs [p] = pulV zs p := by simp [runV, pulV, runGo]
theorem pulV_ok {zs : List Int} {p : Int} (h : cvB zs = true) (h2 : okP zs p = true) : pulV zs p = (plL zs p, true) := by simp [pulV, h, h2]
theorem pulV_no {zs : List Int} {p : Int} (h : okP zs p = false) : pulV zs p = ([], false) := by simp [pulV, h]
theorem pulV_nv {zs : List Int} {p : Int} (h : cvB zs = false) : pulV zs p = ([], false) := by simp [pulV, h]

theorem plA_prev {zs : List Int} {i : Nat} {s : Int} (h : 0 < i) : (plA zs i s).getD (i - 1) 0 = zs.getD (i - 1) 0 := by
  unfold plA
  split
  · simp [List.getD, show i ≠ i - 1 by omega]
  · rfl
theorem own_empty_at (w : World) (base n : Nat) (hb : base ≤ n) (hn : w.heap.size = n) : Own (w.alloc (.cells #[] 3)) base n 0 [] := by
  subst hn; exact own_empty w base hb

set_option maxHeartbeats 3200000 in
theorem spec_pulse (b off c : Nat) (zs : List Int) (p : Int) (w : World) (hn : zs.length ≤ 1048576) (hp : -9223372036854775808 ≤ p ∧ p ≤ 9223372036854775807) (hc : AtInts w b off zs) (hb : b < w.heap.size) :
    Calls Try.prog 48 #[.slice (some ⟨b, off, none⟩) zs.length c, .int .i64 p] w (NewIntsB w (pulV zs p).1 (pulV zs p).2) := by
  have HC := Lib.hid hc
  have HA : Hid (AtInts (w.alloc (.cells #[] 3)) b off zs) := hc.below (below_new w _) hb
  have HE := Lib.hid (ownM_empty w w.heap.size (Nat.le_refl _))
  have HBE := Lib.hid (below_new w (.cells #[] 3))
  have p1 := hp.1
  have p2 := hp.2
  clear hc hp
  by_cases hv : cvB zs = true
  · have hl := cv_len hv
    have l1 := hl.1
    have l2 := hl.2
    have hpin := pidx_in p zs.length
    by_cases hin : inB (-1 - (zs.length : Int)) zs.length p = true
    · have hin' := inB_iff.1 hin
      have i1 := hin'.1
      have i2 := hin'.2
      have hok : okP zs p = cvB (plL zs p) := by unfold okP; rw [hpin, hin]; simp
      have HOK := Lib.hid hok
      have HPI := Lib.hid (show pidx p = if p < 0 then -1 - p else p from rfl)
      clear hl hpin hin' hok
      go_enter Try.func48, Try.ntmps48
      go_wp2_with (first | (go_at_call 39; refine (spec_cv b off c zs _ (by omega) (by exact HC.out)).mono ?_; rintro e w' ⟨rfl, rfl⟩) | (go_at_call 55; refine (l6In_any _ _ _ _).mono ?_; rintro e w' ⟨rfl, rfl⟩) | (at_builtin; refine wpList_appi rfl (.tmp 24) (.tmp 25) rfl _ rfl HE.out rfl HA.out (by omega) ?_))
      intro g' c' w1 hown hg hat
      have hown1 : OwnM w1 w.heap.size g' c' zs.length zs := by simpa using hown
      have ho := hown1.own
      have hb1 := below_app HBE.out hg (Nat.le_refl _)
      have HB1 := Lib.hid hb1
      have hle := ho.le
      clear hown hg hat hown1 hb1
      by_cases hneg : p < 0
      · have t5 := dec_t hneg
        by_cases h1 : -1 - p < (zs.length : Int)
        · by_cases h0 : 0 < -1 - p
          · have hpl : plL zs p = plB (plA zs (-1 - p).toNat (-1)) (-1 - p).toNat (-1) := by unfold plL; rw [pidx_neg hneg, pway_neg hneg]
            have hIl : (-1 - p).toNat < zs.length := by omega
            have hx := cv_in hv (-1 - p).toNat hIl
            obtain ⟨x, ex⟩ : ∃ x, zs.getD (-1 - p).toNat 0 = x := ⟨_, rfl⟩
            rw [ex] at hx
            have x1 := hx.1
            have x2 := hx.2
            have hcx := ho.cellAt (-1 - p).toNat hIl
            rw [ex] at hcx
            have hfx := OwnV.frozen ho (-1 - p).toNat
            have hA := plA_in hv (-1 - p).toNat (-1) (by omega)
            have hoA : Own (w1.setCell ⟨g', (-1 - p).toNat, none⟩ (.int .i64 (x + (-1)))) w.heap.size g' c' (plA zs (-1 - p).toNat (-1)) := by
              have := ho.store (-1 - p).toNat (x + (-1))
              unfold plA
              rw [if_pos hIl, ex]
              exact this
            have t1 := dec_t (show (-1 - p) < (zs.length : Int) by omega)
            have hJ : ((-1 - p).toNat - 1) < zs.length := by omega
            have hAJ := hA ((-1 - p).toNat - 1) hJ
            have hcy := hoA.cellAt ((-1 - p).toNat - 1) (by rw [plA_length]; exact hJ)
            obtain ⟨y, ey⟩ : ∃ y, (plA zs (-1 - p).toNat (-1)).getD ((-1 - p).toNat - 1) 0 = y := ⟨_, rfl⟩
            have hcy2 := ho.cellAt ((-1 - p).toNat - 1) hJ
            rw [show zs.getD ((-1 - p).toNat - 1) 0 = y by rw [← ey, plA_prev (by omega)]] at hcy2
            rw [ey] at hcy hAJ
            have y1 := hAJ.1
            have y2 := hAJ.2
            have hfy := OwnV.frozen hoA ((-1 - p).toNat - 1)
            have hoB : Own ((w1.setCell ⟨g', (-1 - p).toNat, none⟩ (.int .i64 (x + (-1)))).setCell ⟨g', ((-1 - p).toNat - 1), none⟩ (.int .i64 (y - (-1)))) w.heap.size g' c' (plL zs p) := by
              have := hoA.store ((-1 - p).toNat - 1) (y - (-1))
              rw [hpl]
              unfold plB
              rw [if_pos (by omega), ey]
              exact this
            have HOB := Lib.hid hoB
            have HBB : Hid (Below w.heap.size w ((w1.setCell ⟨g', (-1 - p).toNat, none⟩ (.int .i64 (x + (-1)))).setCell ⟨g', ((-1 - p).toNat - 1), none⟩ (.int .i64 (y - (-1))))) := (HB1.out.setCell (p := ⟨g', (-1 - p).toNat, none⟩) hle _).setCell (p := ⟨g', ((-1 - p).toNat - 1), none⟩) hle _
            have t2 := dec_t (show 0 < (-1 - p) by omega)
            clear ho hoA hoB hA hx hAJ ex ey hpl
            by_cases hvv : cvB (plL zs p) = true
            · go_wp2_with (go_at_call 39; refine (spec_cv_n g' 0 c' zs.length (plL zs p) _ (plL_length _ _) (by omega) (by exact HOB.out.at)).mono ?_; rintro e w' ⟨rfl, rfl⟩)
              go_ret2
              rw [pulV_ok hv (by rw [HOK.out]; exact hvv)]
              exact ⟨_, _, ret_slb (plL_length _ _).symm, HOB.out, HBB.out⟩
            · have hvv' : cvB (plL zs p) = false := by simpa using hvv
              clear hvv
              go_wp2_with (go_at_call 39; refine (spec_cv_n g' 0 c' zs.length (plL zs p) _ (plL_length _ _) (by omega) (by exact HOB.out.at)).mono ?_; rintro e w' ⟨rfl, rfl⟩)
              go_ret2
              rw [pulV_no (by rw [HOK.out]; exact hvv')]
              exact ⟨_, _, rfl, own_empty_at _ _ _ (by have := HB1.out.size; omega) (by simp), below_new' HBB.out _⟩
          · have hpl : plL zs p = plB (plA zs (-1 - p).toNat (-1)) (-1 - p).toNat (-1) := by unfold plL; rw [pidx_neg hneg, pway_neg hneg]
            have hIl : (-1 - p).toNat < zs.length := by omega
            have hx := cv_in hv (-1 - p).toNat hIl
            obtain ⟨x, ex⟩ : ∃ x, zs.getD (-1 - p).toNat 0 = x := ⟨_, rfl⟩
            rw [ex] at hx
            have x1 := hx.1
            have x2 := hx.2
            have hcx := ho.cellAt (-1 - p).toNat hIl
            rw [ex] at hcx
            have hfx := OwnV.frozen ho (-1 - p).toNat
            have hA := plA_in hv (-1 - p).toNat (-1) (by omega)
            have hoA : Own (w1.setCell ⟨g', (-1 - p).toNat, none⟩ (.int .i64 (x + (-1)))) w.heap.size g' c' (plA zs (-1 - p).toNat (-1)) := by
              have := ho.store (-1 - p).toNat (x + (-1))
              unfold plA
              rw [if_pos hIl, ex]
              exact this
            have t1 := dec_t (show (-1 - p) < (zs.length : Int) by omega)
            have hoB : Own (w1.setCell ⟨g', (-1 - p).toNat, none⟩ (.int .i64 (x + (-1)))) w.heap.size g' c' (plL zs p) := by
              rw [hpl]
              unfold plB
              rw [if_neg (by omega)]
              exact hoA
            have HOB := Lib.hid hoB
            have HBB : Hid (Below w.heap.size w (w1.setCell ⟨g', (-1 - p).toNat, none⟩ (.int .i64 (x + (-1))))) := HB1.out.setCell (p := ⟨g', (-1 - p).toNat, none⟩) hle _
            have t2 := dec_f (show ¬ 0 < (-1 - p) by omega)
            clear ho hoA hoB hA hx ex hpl
            by_cases hvv : cvB (plL zs p) = true
            · go_wp2_with (go_at_call 39; refine (spec_cv_n g' 0 c' zs.length (plL zs p) _ (plL_length _ _) (by omega) (by exact HOB.out.at)).mono ?_; rintro e w' ⟨rfl, rfl⟩)
              go_ret2
              rw [pulV_ok hv (by rw [HOK.out]; exact hvv)]
              exact ⟨_, _, ret_slb (plL_length _ _).symm, HOB.out, HBB.out⟩
            · have hvv' : cvB (plL zs p) = false := by simpa using hvv
              clear hvv
              go_wp2_with (go_at_call 39; refine (spec_cv_n g' 0 c' zs.length (plL zs p) _ (plL_length _ _) (by omega) (by exact HOB.out.at)).mono ?_; rintro e w' ⟨rfl, rfl⟩)
              go_ret2
              rw [pulV_no (by rw [HOK.out]; exact hvv')]
              exact ⟨_, _, rfl, own_empty_at _ _ _ (by have := HB1.out.size; omega) (by simp), below_new' HBB.out _⟩
        · have hpl : plL zs p = plB (plA zs (-1 - p).toNat (-1)) (-1 - p).toNat (-1) := by unfold plL; rw [pidx_neg hneg, pway_neg hneg]
          have hJ : ((-1 - p).toNat - 1) < zs.length := by omega
          have hy := cv_in hv ((-1 - p).toNat - 1) hJ
          obtain ⟨y, ey⟩ : ∃ y, zs.getD ((-1 - p).toNat - 1) 0 = y := ⟨_, rfl⟩
          rw [ey] at hy
          have y1 := hy.1
          have y2 := hy.2
          have hcy := ho.cellAt ((-1 - p).toNat - 1) hJ
          rw [ey] at hcy
          have hfy := OwnV.frozen ho ((-1 - p).toNat - 1)
          have hoB : Own (w1.setCell ⟨g', ((-1 - p).toNat - 1), none⟩ (.int .i64 (y - (-1)))) w.heap.size g' c' (plL zs p) := by
            have := ho.store ((-1 - p).toNat - 1) (y - (-1))
            rw [hpl]
            unfold plB plA
            rw [if_pos (by omega), if_neg (by omega), ey]
            exact this
          have HOB := Lib.hid hoB
          have HBB : Hid (Below w.heap.size w (w1.setCell ⟨g', ((-1 - p).toNat - 1), none⟩ (.int .i64 (y - (-1))))) := HB1.out.setCell (p := ⟨g', ((-1 - p).toNat - 1), none⟩) hle _
          have t1 := dec_f (show ¬ (-1 - p) < (zs.length : Int) by omega)
          have t2 := dec_t (show 0 < (-1 - p) by omega)
          clear ho hoB hy ey hpl
          by_cases hvv : cvB (plL zs p) = true
          · go_wp2_with (go_at_call 39; refine (spec_cv_n g' 0 c' zs.length (plL zs p) _ (plL_length _ _) (by omega) (by exact HOB.out.at)).mono ?_; rintro e w' ⟨rfl, rfl⟩)
            go_ret2
            rw [pulV_ok hv (by rw [HOK.out]; exact hvv)]
            exact ⟨_, _, ret_slb (plL_length _ _).symm, HOB.out, HBB.out⟩
          · have hvv' : cvB (plL zs p) = false := by simpa using hvv
            clear hvv
            go_wp2_with (go_at_call 39; refine (spec_cv_n g' 0 c' zs.length (plL zs p) _ (plL_length _ _) (by omega) (by exact HOB.out.at)).mono ?_; rintro e w' ⟨rfl, rfl⟩)
            go_ret2
            rw [pulV_no (by rw [HOK.out]; exact hvv')]
            exact ⟨_, _, rfl, own_empty_at _ _ _ (by have := HB1.out.size; omega) (by simp), below_new' HBB.out _⟩
      · have t5 := dec_f hneg
        by_cases h1 : p < (zs.length : Int)
        · by_cases h0 : 0 < p
          · have hpl : plL zs p = plB (plA zs p.toNat 1) p.toNat 1 := by unfold plL; rw [pidx_pos hneg, pway_pos hneg]
            have hIl : p.toNat < zs.length := by omega
            have hx := cv_in hv p.toNat hIl
            obtain ⟨x, ex⟩ : ∃ x, zs.getD p.toNat 0 = x := ⟨_, rfl⟩
            rw [ex] at hx
            have x1 := hx.1
            have x2 := hx.2
            have hcx := ho.cellAt p.toNat hIl
            rw [ex] at hcx
            have hfx := OwnV.frozen ho p.toNat
            have hA := plA_in hv p.toNat 1 (by omega)
            have hoA : Own (w1.setCell ⟨g', p.toNat, none⟩ (.int .i64 (x + 1))) w.heap.size g' c' (plA zs p.toNat 1) := by
              have := ho.store p.toNat (x + 1)
              unfold plA
              rw [if_pos hIl, ex]
              exact this
            have t1 := dec_t (show p < (zs.length : Int) by omega)
            have hJ : (p.toNat - 1) < zs.length := by omega
            have hAJ := hA (p.toNat - 1) hJ
            have hcy := hoA.cellAt (p.toNat - 1) (by rw [plA_length]; exact hJ)
            obtain ⟨y, ey⟩ : ∃ y, (plA zs p.toNat 1).getD (p.toNat - 1) 0 = y := ⟨_, rfl⟩
            have hcy2 := ho.cellAt (p.toNat - 1) hJ
            rw [show zs.getD (p.toNat - 1) 0 = y by rw [← ey, plA_prev (by omega)]] at hcy2
            rw [ey] at hcy hAJ
            have y1 := hAJ.1
            have y2 := hAJ.2
            have hfy := OwnV.frozen hoA (p.toNat - 1)
            have hoB : Own ((w1.setCell ⟨g', p.toNat, none⟩ (.int .i64 (x + 1))).setCell ⟨g', (p.toNat - 1), none⟩ (.int .i64 (y - 1))) w.heap.size g' c' (plL zs p) := by
              have := hoA.store (p.toNat - 1) (y - 1)
              rw [hpl]
              unfold plB
              rw [if_pos (by omega), ey]
              exact this
            have HOB := Lib.hid hoB
            have HBB : Hid (Below w.heap.size w ((w1.setCell ⟨g', p.toNat, none⟩ (.int .i64 (x + 1))).setCell ⟨g', (p.toNat - 1), none⟩ (.int .i64 (y - 1)))) := (HB1.out.setCell (p := ⟨g', p.toNat, none⟩) hle _).setCell (p := ⟨g', (p.toNat - 1), none⟩) hle _
            have t2 := dec_t (show 0 < p by omega)
            clear ho hoA hoB hA hx hAJ ex ey hpl
            by_cases hvv : cvB (plL zs p) = true
            · go_wp2_with (go_at_call 39; refine (spec_cv_n g' 0 c' zs.length (plL zs p) _ (plL_length _ _) (by omega) (by exact HOB.out.at)).mono ?_; rintro e w' ⟨rfl, rfl⟩)
              go_ret2
              rw [pulV_ok hv (by rw [HOK.out]; exact hvv)]
              exact ⟨_, _, ret_slb (plL_length _ _).symm, HOB.out, HBB.out⟩
            · have hvv' : cvB (plL zs p) = false := by simpa using hvv
              clear hvv
              go_wp2_with (go_at_call 39; refine (spec_cv_n g' 0 c' zs.length (plL zs p) _ (plL_length _ _) (by omega) (by exact HOB.out.at)).mono ?_; rintro e w' ⟨rfl, rfl⟩)
              go_ret2
              rw [pulV_no (by rw [HOK.out]; exact hvv')]
              exact ⟨_, _, rfl, own_empty_at _ _ _ (by have := HB1.out.size; omega) (by simp), below_new' HBB.out _⟩
          · have hpl : plL zs p = plB (plA zs p.toNat 1) p.toNat 1 := by unfold plL; rw [pidx_pos hneg, pway_pos hneg]
            have hIl : p.toNat < zs.length := by omega
            have hx := cv_in hv p.toNat hIl
            obtain ⟨x, ex⟩ : ∃ x, zs.getD p.toNat 0 = x := ⟨_, rfl⟩
            rw [ex] at hx
            have x1 := hx.1
            have x2 := hx.2
            have hcx := ho.cellAt p.toNat hIl
            rw [ex] at hcx
            have hfx := OwnV.frozen ho p.toNat
            have hA := plA_in hv p.toNat 1 (by omega)
            have hoA : Own (w1.setCell ⟨g', p.toNat, none⟩ (.int .i64 (x + 1))) w.heap.size g' c' (plA zs p.toNat 1) := by
              have := ho.store p.toNat (x + 1)
              unfold plA
              rw [if_pos hIl, ex]
              exact this
            have t1 := dec_t (show p < (zs.length : Int) by omega)
            have hoB : Own (w1.setCell ⟨g', p.toNat, none⟩ (.int .i64 (x + 1))) w.heap.size g' c' (plL zs p) := by
              rw [hpl]
              unfold plB
              rw [if_neg (by omega)]
              exact hoA
            have HOB := Lib.hid hoB
            have HBB : Hid (Below w.heap.size w (w1.setCell ⟨g', p.toNat, none⟩ (.int .i64 (x + 1)))) := HB1.out.setCell (p := ⟨g', p.toNat, none⟩) hle _
            have t2 := dec_f (show ¬ 0 < p by omega)
            clear ho hoA hoB hA hx ex hpl
            by_cases hvv : cvB (plL zs p) = true
            · go_wp2_with (go_at_call 39; refine (spec_cv_n g' 0 c' zs.length (plL zs p) _ (plL_length _ _) (by omega) (by exact HOB.out.at)).mono ?_; rintro e w' ⟨rfl, rfl⟩)
              go_ret2
              rw [pulV_ok hv (by rw [HOK.out]; exact hvv)]
              exact ⟨_, _, ret_slb (plL_length _ _).symm, HOB.out, HBB.out⟩
            · have hvv' : cvB (plL zs p) = false := by simpa using hvv
              clear hvv
              go_wp2_with (go_at_call 39; refine (spec_cv_n g' 0 c' zs.length (plL zs p) _ (plL_length _ _) (by omega) (by exact HOB.out.at)).mono ?_; rintro e w' ⟨rfl, rfl⟩)
              go_ret2
              rw [pulV_no (by rw [HOK.out]; exact hvv')]
              exact ⟨_, _, rfl, own_empty_at _ _ _ (by have := HB1.out.size; omega) (by simp), below_new' HBB.out _⟩
        · have hpl : plL zs p = plB (plA zs p.toNat 1) p.toNat 1 := by unfold plL; rw [pidx_pos hneg, pway_pos hneg]
          have hJ : (p.toNat - 1) < zs.length := by omega
          have hy := cv_in hv (p.toNat - 1) hJ
          obtain ⟨y, ey⟩ : ∃ y, zs.getD (p.toNat - 1) 0 = y := ⟨_, rfl⟩
          rw [ey] at hy
          have y1 := hy.1
          have y2 := hy.2
          have hcy := ho.cellAt (p.toNat - 1) hJ
          rw [ey] at hcy
          have hfy := OwnV.frozen ho (p.toNat - 1)
          have hoB : Own (w1.setCell ⟨g', (p.toNat - 1), none⟩ (.int .i64 (y - 1))) w.heap.size g' c' (plL zs p) := by
            have := ho.store (p.toNat - 1) (y - 1)
            rw [hpl]
            unfold plB plA
            rw [if_pos (by omega), if_neg (by omega), ey]
            exact this
          have HOB := Lib.hid hoB
          have HBB : Hid (Below w.heap.size w (w1.setCell ⟨g', (p.toNat - 1), none⟩ (.int .i64 (y - 1)))) := HB1.out.setCell (p := ⟨g', (p.toNat - 1), none⟩) hle _
          have t1 := dec_f (show ¬ p < (zs.length : Int) by omega)
          have t2 := dec_t (show 0 < p by omega)
          clear ho hoB hy ey hpl
          by_cases hvv : cvB (plL zs p) = true
          · go_wp2_with (go_at_call 39; refine (spec_cv_n g' 0 c' zs.length (plL zs p) _ (plL_length _ _) (by omega) (by exact HOB.out.at)).mono ?_; rintro e w' ⟨rfl, rfl⟩)
            go_ret2
            rw [pulV_ok hv (by rw [HOK.out]; exact hvv)]
            exact ⟨_, _, ret_slb (plL_length _ _).symm, HOB.out, HBB.out⟩
          · have hvv' : cvB (plL zs p) = false := by simpa using hvv
            clear hvv
            go_wp2_with (go_at_call 39; refine (spec_cv_n g' 0 c' zs.length (plL zs p) _ (plL_length _ _) (by omega) (by exact HOB.out.at)).mono ?_; rintro e w' ⟨rfl, rfl⟩)
            go_ret2
            rw [pulV_no (by rw [HOK.out]; exact hvv')]
            exact ⟨_, _, rfl, own_empty_at _ _ _ (by have := HB1.out.size; omega) (by simp), below_new' HBB.out _⟩
    · have hin' : inB (-1 - (zs.length : Int)) zs.length p = false := by simpa using hin
      have hok : okP zs p = false := by unfold okP; rw [hpin, hin']; simp
      rw [pulV_no hok]
      clear hin hpin hok hl
      go_enter Try.func48, Try.ntmps48
      go_wp2_with (first | (go_at_call 39; refine (spec_cv b off c zs _ (by omega) (by exact HC.out)).mono ?_; rintro e w' ⟨rfl, rfl⟩) | (go_at_call 55; refine (l6In_any _ _ _ _).mono ?_; rintro e w' ⟨rfl, rfl⟩))
      go_ret2
      exact ⟨_, _, rfl, own_empty w _ (Nat.le_refl _), below_new w _⟩
  · have hv' : cvB zs = false := by simpa using hv
    rw [pulV_nv hv']
    clear hv
    go_enter Try.func48, Try.ntmps48
    go_wp2_with (go_at_call 39; refine (spec_cv b off c zs _ (by omega) (by exact HC.out)).mono ?_; rintro e w' ⟨rfl, rfl⟩)
    go_ret2
    exact ⟨_, _, rfl, own_empty w _ (Nat.le_refl _), below_new w _⟩

set_option maxHeartbeats 1600000 in
theorem spec_run (b off c b' off' c' : Nat) (zs ps : List Int) (w : World) (hn : zs.length ≤ 1048576) (hn' : ps.length ≤ 1048576) (hz : ∀ z ∈ ps, -9223372036854775808 ≤ z ∧ z ≤ 9223372036854775807)
    (hc : AtInts w b off zs) (hb : b < w.heap.size) (hc' : AtInts w b' off' ps) (hb' : b' < w.heap.size) :
    Calls Try.prog 27 #[.slice (some ⟨b, off, none⟩) zs.length c, .slice (some ⟨b', off', none⟩) ps.length c'] w (NewIntsB w (runV zs ps).1 (runV zs ps).2) := by
  have HC := Lib.hid hc
  have HC' := Lib.hid hc'
  have HZ := Lib.hid hz
  have HA : Hid (AtInts (w.alloc (.cells #[] 3)) b off zs) := hc.below (below_new w _) hb
  have HE := Lib.hid (ownM_empty w w.heap.size (Nat.le_refl _))
  have HBE := Lib.hid (below_new w (.cells #[] 3))
  clear hc hc' hz
  by_cases hv : cvB zs = true
  · have hrun : runV zs ps = runGo zs ps := by simp [runV, hv]
    obtain ⟨R, hR⟩ : ∃ R, runGo zs ps = R := ⟨_, rfl⟩
    rw [hrun, hR]
    have HR : Hid (runGo zs (ps.drop 0) = R) := hR
    clear hrun hR
    go_enter Try.func27, Try.ntmps27
    go_wp2_with (first | (go_at_call 39; refine (spec_cv b off c zs _ (by omega) (by exact HC.out)).mono ?_; rintro e w' ⟨rfl, rfl⟩) | (at_builtin; refine wpList_appi rfl (.tmp 14) (.tmp 15) rfl _ rfl HE.out rfl HA.out (by omega) ?_))
    intro g' c' w1 hown hg hat
    have hown1 : OwnM w1 w.heap.size g' c' zs.length zs := by simpa using hown
    have HO1 := Lib.hid hown1.own
    have hb1 := below_app HBE.out hg (Nat.le_refl _)
    have HB1 := Lib.hid hb1
    clear hown hg hat hown1 hb1
    go_wp2_with fail
    go_loopw [6, 7] (fun v q wr => ∃ (k g d : Nat) (ys : List Int), k ≤ ps.length ∧ q = .int .i64 k ∧ v = .slice (some ⟨g, 0, none⟩) ys.length d ∧ Own wr w.heap.size g d ys ∧ Below w.heap.size w wr ∧ cvB ys = true ∧ runGo ys (ps.drop k) = R) (fun _ q _ => ps.length - (intOf q).toNat)
    case atStart => exact ⟨0, g', c', zs, Nat.zero_le _, rfl, rfl, HO1.out, HB1.out, hv, HR.out⟩
    case round =>
      clear HO1 HB1 HR HE HBE HA
      obtain ⟨k, g, d, ys, hk, rfl, rfl, hown, hbel, hvy, hgo⟩ := hrel
      by_cases hlt : k < ps.length
      · have hcell := (hbel.cell (p := ⟨b', off' + k, none⟩) hb').trans (HC'.out k hlt)
        have hzk := HZ.out _ (getD_mem hlt)
        have hdrop : ps.drop k = ps.getD k 0 :: ps.drop (k + 1) := by
          rw [List.drop_eq_getElem_cons hlt]
          simp [List.getD, hlt]
        rw [hdrop] at hgo
        obtain ⟨p, hp⟩ : ∃ p, ps.getD k 0 = p := ⟨_, rfl⟩
        rw [hp] at hcell hzk hgo
        have hyl := (cv_len hvy).2
        have hpul := spec_pulse g 0 d ys p wr (by omega) hzk hown.at hown.lt
        have hle := hown.le
        have HGO := Lib.hid hgo
        have HBEL := Lib.hid hbel
        have hsz : w.heap.size ≤ wr.heap.size := hbel.size
        by_cases hok : okP ys p = true
        · rw [pulV_ok hvy hok] at hpul
          have HP := Lib.hid hpul
          clear hown hzk hdrop hp hpul hgo hbel
          go_wp2_with (go_at_call 48; refine HP.out.mono ?_; rintro e w2 ⟨g2, c2, rfl, ho2, hb2⟩; have HO2 := Lib.hid ho2; have HB2 := Lib.hid hb2; clear ho2 hb2)
          go_roundw
          case rel =>
            have hgo := HGO.out
            rw [runGo, if_pos hok] at hgo
            exact ⟨k + 1, g2, c2, plL ys p, by omega, by go_num, rfl, OwnV.mono HO2.out (Nat.le_trans hsz HO2.out.le), below_to HBEL.out HB2.out hsz, okP_cv hok, hgo⟩
          case measure => simp [intOf]; omega
        · have hok' : okP ys p = false := by simpa using hok
          rw [pulV_no hok'] at hpul
          have HP := Lib.hid hpul
          clear hok hown hzk hdrop hp hpul hgo hbel
          go_wp2_with (go_at_call 48; refine HP.out.mono ?_; rintro e w2 ⟨g2, c2, rfl, ho2, hb2⟩; have HB2 := Lib.hid hb2; clear ho2 hb2)
          go_ret2
          have hgo := HGO.out
          rw [runGo, hok'] at hgo
          have hR : R = ([], false) := by rw [← hgo]; rfl
          rw [hR]
          have hb2 := below_to HBEL.out HB2.out hsz
          exact ⟨_, _, rfl, own_empty w2 _ hb2.size, below_new' hb2 _⟩
      · have HBEL := Lib.hid hbel
        have HGO := Lib.hid hgo
        have HOW := Lib.hid hown
        clear hbel hgo hown
        go_wp2_with fail
        go_ret2
        have hgo := HGO.out
        rw [List.drop_of_length_le (by omega), runGo] at hgo
        rw [← hgo]
        exact ⟨g, d, rfl, HOW.out, HBEL.out⟩
  · have hv' : cvB zs = false := by simpa using hv
    have hrun : runV zs ps = ([], false) := by simp [runV, hv']
    rw [hrun]; clear hrun hv
    go_enter Try.func27, Try.ntmps27
    go_wp2_with (go_at_call 39; refine (spec_cv b off c zs _ (by omega) (by exact HC.out)).mono ?_; rintro e w' ⟨rfl, rfl⟩)
    go_ret2
    exact ⟨_, _, rfl, own_empty w _ (Nat.le_refl _), below_new w _⟩

end Go.Proofs.Ytgjgedmciiolmaa
