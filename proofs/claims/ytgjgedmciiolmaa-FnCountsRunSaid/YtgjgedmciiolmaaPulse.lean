/-
  pulsed, CountsPulse and CountsRun of the program and of the reference: both hand back the same lists. No condition but lengths that fit and numbers that are ints.
-/
import Derived.Test.YtgjgedmciiolmaaNet
import Derived.Test.YtgjgedmciiolmaaCv
namespace Go.Proofs.Ytgjgedmciiolmaa
open Go.RowKit
set_option linter.unusedVariables false

/-- The counts behind a pulse at counter i. -/
def plA (zs : List Int) (i : Nat) (s : Int) : List Int := if i < zs.length then zs.set i (zs.getD i 0 + s) else zs
def plB (zs : List Int) (i : Nat) (s : Int) : List Int := if 0 < i then zs.set (i - 1) (zs.getD (i - 1) 0 - s) else zs
def plL (zs : List Int) (p : Int) : List Int := plB (plA zs (pidx p).toNat (pway p)) (pidx p).toNat (pway p)
def okP (zs : List Int) (p : Int) : Bool := decide (pidx p ≤ zs.length) && cvB (plL zs p)
theorem plA_length (zs : List Int) (i : Nat) (s : Int) : (plA zs i s).length = zs.length := by unfold plA; split <;> simp
theorem plB_length (zs : List Int) (i : Nat) (s : Int) : (plB zs i s).length = zs.length := by unfold plB; split <;> simp
theorem plL_length (zs : List Int) (p : Int) : (plL zs p).length = zs.length := by unfold plL; rw [plB_length, plA_length]
theorem cv_in {zs : List Int} (h : cvB zs = true) (k : Nat) (hk : k < zs.length) : 0 ≤ zs.getD k 0 ∧ zs.getD k 0 ≤ 50 := by
  unfold cvB at h
  rw [Bool.and_eq_true, List.all_eq_true] at h
  have := h.2 _ (getD_mem hk)
  exact inB_iff.1 this
theorem cv_len {zs : List Int} (h : cvB zs = true) : 1 ≤ zs.length ∧ zs.length ≤ 8 := by
  unfold cvB at h
  rw [Bool.and_eq_true] at h
  have := inB_iff.1 h.1
  omega
theorem plA_in {zs : List Int} (h : cvB zs = true) (i : Nat) (s : Int) (hs : -1 ≤ s ∧ s ≤ 1) (k : Nat) (hk : k < zs.length) : -1 ≤ (plA zs i s).getD k 0 ∧ (plA zs i s).getD k 0 ≤ 51 := by
  have h1 := cv_in h k hk
  unfold plA
  split
  · by_cases e : i = k
    · subst e
      rw [show (zs.set i (zs.getD i 0 + s)).getD i 0 = zs.getD i 0 + s by simp [List.getD, hk]]
      omega
    · rw [show (zs.set i (zs.getD i 0 + s)).getD k 0 = zs.getD k 0 by simp [List.getD, e]]
      omega
  · omega

theorem impl_cv_n (b off c n : Nat) (zs : List Int) (w : World) (hl : zs.length = n) (hn : n ≤ 1048576) (hc : AtInts w b off zs) :
    Calls Try.prog 38 #[.slice (some ⟨b, off, none⟩) n c] w fun e w' => e = .returned (.bool (cvB zs)) ∧ w = w' := by
  subst hl; exact impl_cv b off c zs w (by omega) hc
theorem spec_cv_n (b off c n : Nat) (zs : List Int) (w : World) (hl : zs.length = n) (hn : n ≤ 1048576) (hc : AtInts w b off zs) :
    Calls Try.prog 39 #[.slice (some ⟨b, off, none⟩) n c] w fun e w' => e = .returned (.bool (cvB zs)) ∧ w = w' := by
  subst hl; exact spec_cv b off c zs w (by omega) hc

/-- What pulsed leaves. -/
def Pulsed (w : World) (base g c : Nat) (zs : List Int) (p : Int) (e : Ending) (w' : World) : Prop :=
  e = .returned (.bool (okP zs p)) ∧ (∃ ys : List Int, ys.length = zs.length ∧ Own w' base g c ys ∧ (okP zs p = true → ys = plL zs p)) ∧ w.grownBy w' (some g) ∧ w'.heap.size = w.heap.size

theorem setCell_grown (w : World) (g j : Nat) (u : Value) : w.grownBy (w.setCell ⟨g, j, none⟩ u) (some g) :=
  ⟨rfl, rfl, rfl, by simp, fun i _ hne => Below.heap_setCell _ _ _ _ (fun e => hne (by rw [e]))⟩
theorem Own.cellAt {w : World} {base g c : Nat} {zs : List Int} (h : Own w base g c zs) (k : Nat) (hk : k < zs.length) : w.cell? ⟨g, k, none⟩ = some (.int .i64 (zs.getD k 0)) := by
  have := h.at k hk
  rwa [Nat.zero_add] at this

set_option maxHeartbeats 1600000 in
theorem pulsed_any (base g c : Nat) (zs : List Int) (p : Int) (w : World) (hv : cvB zs = true) (hp : -9223372036854775808 ≤ p ∧ p ≤ 9223372036854775807) (ho : Own w base g c zs) :
    Calls Try.prog 47 #[.slice (some ⟨g, 0, none⟩) zs.length c, .int .i64 p] w (Pulsed w base g c zs p) := by
  have hl := cv_len hv
  obtain ⟨I, hI⟩ := Int.eq_ofNat_of_zero_le (pidx_nn p)
  have hway := pway_b p
  have hct := fun w => counterOf_any zs.length p w hp.1 hp.2
  have l1 := hl.1
  have l2 := hl.2
  have s1 := hway.1
  have s2 := hway.2
  clear hl
  by_cases hIn : I ≤ zs.length
  · have hok : okP zs p = cvB (plL zs p) := by unfold okP; rw [hI, dec_t (show (I : Int) ≤ (zs.length : Int) by omega)]; simp
    have hpl : plL zs p = plB (plA zs I (pway p)) I (pway p) := by unfold plL; rw [hI]; rfl
    rw [hI] at hct
    obtain ⟨s, hs⟩ : ∃ s, pway p = s := ⟨_, rfl⟩
    rw [hs] at hct hpl s1 s2 hway
    have t0 := dec_t hIn
    -- the first store
    have hA : ∀ k, k < zs.length → -1 ≤ (plA zs I s).getD k 0 ∧ (plA zs I s).getD k 0 ≤ 51 := plA_in hv I s hway
    have HCT := Lib.hid hct
    have HOK := Lib.hid hok
    have HPL := Lib.hid hpl
    clear hct hok hpl
    by_cases h1 : I < zs.length
    · have hx := cv_in hv I h1
      obtain ⟨x, ex⟩ : ∃ x, zs.getD I 0 = x := ⟨_, rfl⟩
      rw [ex] at hx
      have x1 := hx.1
      have x2 := hx.2
      have hcx := ho.cellAt I h1
      rw [ex] at hcx
      have hfx := OwnV.frozen ho I
      have hoA : Own (w.setCell ⟨g, I, none⟩ (.int .i64 (x + s))) base g c (plA zs I s) := by
        have := ho.store I (x + s)
        unfold plA
        rw [if_pos h1, ex]
        exact this
      by_cases h0 : 0 < I
      · have hJ : I - 1 < zs.length := by omega
        have hAJ := hA (I - 1) hJ
        have hcy := hoA.cellAt (I - 1) (by rw [plA_length]; exact hJ)
        obtain ⟨y, ey⟩ : ∃ y, (plA zs I s).getD (I - 1) 0 = y := ⟨_, rfl⟩
        rw [ey] at hcy hAJ
        have y1 := hAJ.1
        have y2 := hAJ.2
        have hfy := OwnV.frozen hoA (I - 1)
        have hoB : Own ((w.setCell ⟨g, I, none⟩ (.int .i64 (x + s))).setCell ⟨g, I - 1, none⟩ (.int .i64 (y - s))) base g c (plL zs p) := by
          have := hoA.store (I - 1) (y - s)
          rw [HPL.out]
          unfold plB
          rw [if_pos h0, ey]
          exact this
        have HOB := Lib.hid hoB
        have HG : Hid (w.grownBy ((w.setCell ⟨g, I, none⟩ (.int .i64 (x + s))).setCell ⟨g, I - 1, none⟩ (.int .i64 (y - s))) (some g)) := grownBy_trans (setCell_grown _ _ _ _) (setCell_grown _ _ _ _)
        have e1 : ((I : Int) - 1).toNat = I - 1 := by omega
        have t1 := dec_t (show I < zs.length from h1)
        have t2 := dec_t (show (0 : Int) < (I : Int) by omega)
        clear ho hoA hoB hA hx hAJ ex ey hI hs hway
        go_enter Try.func47, Try.ntmps47
        go_wp2_with (first | (go_at_call 49; refine (HCT.out _).mono ?_; rintro e w' ⟨rfl, rfl⟩) | (go_at_call 38; refine (impl_cv_n g 0 c zs.length (plL zs p) _ (plL_length _ _) (by omega) (by exact HOB.out.at)).mono ?_; rintro e w' ⟨rfl, rfl⟩))
        go_ret
        exact ⟨ret_bool HOK.out.symm, ⟨plL zs p, plL_length _ _, HOB.out, fun _ => rfl⟩, HG.out, by simp⟩
      · have hoB : Own (w.setCell ⟨g, I, none⟩ (.int .i64 (x + s))) base g c (plL zs p) := by
          rw [HPL.out]
          unfold plB
          rw [if_neg h0]
          exact hoA
        have HOB := Lib.hid hoB
        have HG := Lib.hid (setCell_grown w g I (.int .i64 (x + s)))
        have t1 := dec_t (show I < zs.length from h1)
        have t2 := dec_f (show ¬ (0 : Int) < (I : Int) by omega)
        clear ho hoA hoB hA hx ex hI hs hway
        go_enter Try.func47, Try.ntmps47
        go_wp2_with (first | (go_at_call 49; refine (HCT.out _).mono ?_; rintro e w' ⟨rfl, rfl⟩) | (go_at_call 38; refine (impl_cv_n g 0 c zs.length (plL zs p) _ (plL_length _ _) (by omega) (by exact HOB.out.at)).mono ?_; rintro e w' ⟨rfl, rfl⟩))
        go_ret
        exact ⟨ret_bool HOK.out.symm, ⟨plL zs p, plL_length _ _, HOB.out, fun _ => rfl⟩, HG.out, by simp⟩
    · have hJ : I - 1 < zs.length := by omega
      have h0 : 0 < I := by omega
      have hy := cv_in hv (I - 1) hJ
      obtain ⟨y, ey⟩ : ∃ y, zs.getD (I - 1) 0 = y := ⟨_, rfl⟩
      rw [ey] at hy
      have y1 := hy.1
      have y2 := hy.2
      have hcy := ho.cellAt (I - 1) hJ
      rw [ey] at hcy
      have hfy := OwnV.frozen ho (I - 1)
      have hoB : Own (w.setCell ⟨g, I - 1, none⟩ (.int .i64 (y - s))) base g c (plL zs p) := by
        have := ho.store (I - 1) (y - s)
        rw [HPL.out]
        unfold plB plA
        rw [if_pos h0, if_neg h1, ey]
        exact this
      have HOB := Lib.hid hoB
      have HG := Lib.hid (setCell_grown w g (I - 1) (.int .i64 (y - s)))
      have e1 : ((I : Int) - 1).toNat = I - 1 := by omega
      have t1 := dec_f (show ¬ I < zs.length from h1)
      have t2 := dec_t (show (0 : Int) < (I : Int) by omega)
      clear ho hoB hA hy ey hI hs hway
      go_enter Try.func47, Try.ntmps47
      go_wp2_with (first | (go_at_call 49; refine (HCT.out _).mono ?_; rintro e w' ⟨rfl, rfl⟩) | (go_at_call 38; refine (impl_cv_n g 0 c zs.length (plL zs p) _ (plL_length _ _) (by omega) (by exact HOB.out.at)).mono ?_; rintro e w' ⟨rfl, rfl⟩))
      go_ret
      exact ⟨ret_bool HOK.out.symm, ⟨plL zs p, plL_length _ _, HOB.out, fun _ => rfl⟩, HG.out, by simp⟩
  · have hok : okP zs p = false := by unfold okP; rw [hI, dec_f (show ¬ (I : Int) ≤ (zs.length : Int) by omega)]; simp
    rw [hI] at hct
    have t0 := dec_f hIn
    have HCT := Lib.hid hct
    have HOK := Lib.hid hok
    have HO := Lib.hid ho
    clear hct hok ho hI hway
    go_enter Try.func47, Try.ntmps47
    go_wp2_with (go_at_call 49; refine (HCT.out _).mono ?_; rintro e w' ⟨rfl, rfl⟩)
    go_ret
    exact ⟨ret_bool HOK.out.symm, ⟨zs, rfl, HO.out, fun h => by rw [HOK.out] at h; cases h⟩, World.grownBy.refl _ _, rfl⟩

/-- The counts behind the first pulses. -/
def runGo : List Int → List Int → List Int × Bool
  | zs, [] => (zs, true)
  | zs, p :: ps => if okP zs p = true then runGo (plL zs p) ps else ([], false)
def runV (zs ps : List Int) : List Int × Bool := if cvB zs = true then runGo zs ps else ([], false)
theorem okP_cv {zs : List Int} {p : Int} (h : okP zs p = true) : cvB (plL zs p) = true := by
  unfold okP at h
  rw [Bool.and_eq_true] at h
  exact h.2

set_option maxHeartbeats 1600000 in
theorem impl_run (b off c b' off' c' : Nat) (zs ps : List Int) (w : World) (hn : zs.length ≤ 1048576) (hn' : ps.length ≤ 1048576) (hz : ∀ z ∈ ps, -9223372036854775808 ≤ z ∧ z ≤ 9223372036854775807)
    (hc : AtInts w b off zs) (hb : b < w.heap.size) (hc' : AtInts w b' off' ps) (hb' : b' < w.heap.size) :
    Calls Try.prog 26 #[.slice (some ⟨b, off, none⟩) zs.length c, .slice (some ⟨b', off', none⟩) ps.length c'] w (NewIntsB w (runV zs ps).1 (runV zs ps).2) := by
  have HC := Lib.hid hc
  have HC' := Lib.hid hc'
  have HZ := Lib.hid hz
  clear hc hc' hz
  by_cases hv : cvB zs = true
  · have hrun : runV zs ps = runGo zs ps := by simp [runV, hv]
    obtain ⟨R, hR⟩ : ∃ R, runGo zs ps = R := ⟨_, rfl⟩
    rw [hrun, hR]
    have HR : Hid (runGo zs (ps.drop 0) = R) := hR
    clear hrun hR
    go_enter Try.func26, Try.ntmps26
    go_wp2_with (first | (go_at_call 38; refine (impl_cv b off c zs _ (by omega) (by exact HC.out)).mono ?_; rintro e w' ⟨rfl, rfl⟩) | (go_at_call 46; refine (clone_any b off c zs _ hn (by exact HC.out) hb).mono ?_; rintro e w1 ⟨g, cc, rfl, ho1, hb1⟩; have HO1 := Lib.hid ho1; have HB1 := Lib.hid hb1; clear ho1 hb1))
    go_loopw [17] (fun q wr => ∃ (k : Nat) (ys : List Int), k ≤ ps.length ∧ q = .int .i64 k ∧ ys.length = zs.length ∧ Own wr w.heap.size g cc ys ∧ Below w.heap.size w wr ∧ cvB ys = true ∧ runGo ys (ps.drop k) = R) (fun q _ => ps.length - (intOf q).toNat)
    case atStart => exact ⟨0, zs, Nat.zero_le _, rfl, rfl, HO1.out, HB1.out, hv, HR.out⟩
    case round =>
      clear HO1 HB1 HR
      obtain ⟨k, ys, hk, rfl, hyl, hown, hbel, hvy, hgo⟩ := hrel
      by_cases hlt : k < ps.length
      · have hcell := (hbel.cell (p := ⟨b', off' + k, none⟩) hb').trans (HC'.out k hlt)
        have hzk := HZ.out _ (getD_mem hlt)
        have hdrop : ps.drop k = ps.getD k 0 :: ps.drop (k + 1) := by
          rw [List.drop_eq_getElem_cons hlt]
          simp [List.getD, hlt]
        rw [hdrop] at hgo
        obtain ⟨p, hp⟩ : ∃ p, ps.getD k 0 = p := ⟨_, rfl⟩
        rw [hp] at hcell hzk hgo
        have hpul := pulsed_any w.heap.size g cc ys p wr hvy hzk hown
        rw [hyl] at hpul
        have hle := hown.le
        have HP := Lib.hid hpul
        have HGO := Lib.hid hgo
        have HYL := Lib.hid hyl
        have HBEL := Lib.hid hbel
        clear hown hzk hdrop hp hpul hgo hyl hbel
        by_cases hok : okP ys p = true
        · go_wp2_with (go_at_call 47; refine HP.out.mono ?_; rintro e w2 ⟨rfl, ⟨xs, hxl, hox, hxe⟩, hg2, hz2⟩; have HXL := Lib.hid hxl; have HOX := Lib.hid hox; have HXE := Lib.hid hxe; have HG2 := Lib.hid hg2; clear hxl hox hxe hg2 hz2)
          go_roundw
          case rel =>
            have e := HXE.out hok
            have hx := HOX.out
            rw [e] at hx
            have hgo := HGO.out
            rw [runGo, if_pos hok] at hgo
            exact ⟨k + 1, plL ys p, by omega, by go_num, by rw [plL_length]; exact HYL.out, hx, below_app HBEL.out HG2.out hle, okP_cv hok, hgo⟩
          case measure => simp [intOf]; omega
        · have hok' : okP ys p = false := by simpa using hok
          clear hok
          go_wp2_with (go_at_call 47; refine HP.out.mono ?_; rintro e w2 ⟨rfl, ⟨xs, hxl, hox, hxe⟩, hg2, hz2⟩; have HG2 := Lib.hid hg2; clear hxl hox hxe hg2 hz2)
          go_ret2
          have hgo := HGO.out
          rw [runGo, hok'] at hgo
          have hR : R = ([], false) := by rw [← hgo]; rfl
          rw [hR]
          have hb2 := below_app HBEL.out HG2.out hle
          exact ⟨_, _, rfl, own_empty w2 _ hb2.size, below_new' hb2 _⟩
      · have HBEL := Lib.hid hbel
        have HYL := Lib.hid hyl
        have HGO := Lib.hid hgo
        have HOW := Lib.hid hown
        clear hbel hyl hgo hown
        go_wp2_with fail
        go_ret2
        have hgo := HGO.out
        rw [List.drop_of_length_le (by omega), runGo] at hgo
        rw [← hgo]
        exact ⟨g, cc, ret_slb HYL.out.symm, HOW.out, HBEL.out⟩
  · have hv' : cvB zs = false := by simpa using hv
    have hrun : runV zs ps = ([], false) := by simp [runV, hv']
    rw [hrun]; clear hrun hv
    go_enter Try.func26, Try.ntmps26
    go_wp2_with (go_at_call 38; refine (impl_cv b off c zs _ (by omega) (by exact HC.out)).mono ?_; rintro e w' ⟨rfl, rfl⟩)
    go_ret2
    exact ⟨_, _, rfl, own_empty w _ (Nat.le_refl _), below_new w _⟩

set_option maxHeartbeats 800000 in
theorem impl_pulse (b off c : Nat) (zs : List Int) (p : Int) (w : World) (hn : zs.length ≤ 1048576) (hp : -9223372036854775808 ≤ p ∧ p ≤ 9223372036854775807) (hc : AtInts w b off zs) (hb : b < w.heap.size) :
    Calls Try.prog 18 #[.slice (some ⟨b, off, none⟩) zs.length c, .int .i64 p] w (NewIntsB w (runV zs [p]).1 (runV zs [p]).2) := by
  have hB := below_new w (.cells #[.int .i64 p] 3)
  have hrun := impl_run b off c w.heap.size 0 1 zs [p] (w.alloc (.cells #[.int .i64 p] 3)) hn (by simp) (by simpa using hp) (hc.below hB hb) (by simp; omega) (by
    intro k hk
    have hk0 : k = 0 := by simpa using hk
    subst hk0
    have := cell_of_row (w.alloc (.cells #[.int .i64 p] 3)) w.heap.size 0 #[.int .i64 p] 3 (0, 0) (heap_alloc_new w _)
    simp) (by simp)
  have HRUN := Lib.hid hrun
  have HB := Lib.hid hB
  clear hrun hB hc hb
  go_enter Try.func18, Try.ntmps18
  go_wp2_with fail
  refine HRUN.out.mono ?_
  rintro e w1 ⟨g, cc, rfl, ho, hb1⟩
  have HO := Lib.hid ho
  have HB1 := Lib.hid hb1
  clear ho hb1
  go_wp2_with fail
  go_ret2
  have hle : w.heap.size ≤ (w.alloc (.cells #[.int .i64 p] 3)).heap.size := by simp
  exact ⟨g, cc, rfl, OwnV.mono HO.out (Nat.le_trans hle HO.out.le), below_to HB.out HB1.out hle⟩

end Go.Proofs.Ytgjgedmciiolmaa
