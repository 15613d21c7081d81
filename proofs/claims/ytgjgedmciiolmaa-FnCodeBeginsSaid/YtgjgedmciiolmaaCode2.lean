/-
  Codes in the program: beatsOf, codeOf, text, total, CodeText, CodeValid, CodeBeats. No condition but lengths that fit.
-/
import Derived.Test.YtgjgedmciiolmaaCode1
namespace Go.Proofs.Ytgjgedmciiolmaa
open Go.RowKit
set_option linter.unusedVariables false

def bOk (zs : List Int) (most : Int) : Bool := decide ((zs.length : Int) ≤ most) && zs.all (inB 1 6)
def bV (zs : List Int) (most : Int) : ByteArray := if bOk zs most = true then cbs zs else ⟨#[]⟩
def codeV (zs : List Int) : ByteArray := if codeB zs = true then cbs zs else ⟨#[]⟩
theorem codeB_bOk {zs : List Int} (h : 1 ≤ zs.length) : bOk zs 5 = codeB zs := by
  unfold bOk codeB grpB inB
  rw [show decide ((1 : Int) ≤ (zs.length : Int)) = true from dec_t (by omega)]
  rw [Bool.true_and, Bool.and_comm]
theorem ub_toNat {z : Int} (h1 : 1 ≤ z) (h6 : z ≤ 6) : ((ub z).toNat : Int) = z := by
  unfold ub
  rw [UInt8.toNat_ofNat']
  omega
def ubc (zs : List Int) : List Value := Lib.byteCells (zs.map ub)
theorem ubc_snoc (zs : List Int) (k : Nat) (hk : k < zs.length) (h1 : 1 ≤ zs.getD k 0) (h6 : zs.getD k 0 ≤ 6) : ubc (zs.take (k + 1)) = ubc (zs.take k) ++ [.int .u8 (zs.getD k 0)] := by
  have e : zs.getD k 0 = zs[k] := by simp [List.getD, hk]
  have := ub_toNat h1 h6
  unfold ubc Lib.byteCells
  rw [List.take_succ_eq_append_getElem hk, List.map_append, List.map_append, ← e]
  simpa using this

def RetSB (s : ByteArray) (b : Bool) (w : World) (e : Ending) (w' : World) : Prop := e = .returned (.tuple #[.string s, .bool b]) ∧ Below w.heap.size w w'
set_option maxHeartbeats 800000 in
theorem beatsOf_any (b off c : Nat) (zs : List Int) (most : Nat) (w : World) (hn : zs.length ≤ 1048576) (hm : most ≤ 1048576) (hb : b < w.heap.size) (hc : AtInts w b off zs) :
    Calls Try.prog 52 #[.slice (some ⟨b, off, none⟩) zs.length c, .int .i64 most] w (RetSB (bV zs most) (bOk zs most) w) := by
  have HC := Lib.hid hc
  clear hc
  by_cases hlen : most < zs.length
  · have hok : bOk zs most = false := by unfold bOk; rw [dec_f (by omega)]; rfl
    have hv : bV zs most = ⟨#[]⟩ := by unfold bV; rw [hok]; rfl
    rw [hok, hv]
    have t0 := dec_t (show (most : Int) < (zs.length : Int) by omega)
    have t0' := dec_t hlen
    clear hok hv
    go_enter Try.func52, Try.ntmps52
    go_wp2_with fail
    go_ret2
    exact ⟨rfl, Below.refl _ _⟩
  · have hok : bOk zs most = zs.all (inB 1 6) := by unfold bOk; rw [dec_t (by omega), Bool.true_and]
    have t0 := dec_f (show ¬ (most : Int) < (zs.length : Int) by omega)
    have t0' := dec_f hlen
    have HOK := Lib.hid hok
    clear hok
    go_enter Try.func52, Try.ntmps52
    go_wp2_with (at_make; refine wpList_mk0 slBy rfl (.const (.int .i64 0)) (.tmp 14) rfl _ w.heap.size zs.length rfl rfl rfl (by omega) (by unfold maxLen; omega) (Nat.le_refl _) ?_; intro w1 hown1 hg1; have O1 := Lib.hid hown1; have B1 := Lib.hid ((Below.refl w.heap.size w).grown hg1 (Nat.le_refl _) (by simp)); clear hown1 hg1)
    go_loopw [6, 18] (fun v q wr => ∃ k g d : Nat, k ≤ zs.length ∧ q = .int .i64 k ∧ v = .slice (some ⟨g, 0, none⟩) k d ∧ OwnV wr w.heap.size 5 1 g d k (ubc (zs.take k)) ∧ (zs.take k).all (inB 1 6) = true ∧ Below w.heap.size w wr) (fun _ q _ => zs.length - (intOf q).toNat)
    case atStart => exact ⟨0, _, _, by omega, rfl, rfl, by simpa [ubc, Lib.byteCells] using O1.out, by simp, B1.out⟩
    case round =>
      clear O1 B1
      obtain ⟨k, g, d, hk, rfl, rfl, hown, hall, hbel⟩ := hrel
      have HOW := Lib.hid hown
      have HAL := Lib.hid hall
      have HBE := Lib.hid hbel
      have AT := Lib.hid (HC.out.below hbel hb)
      clear hown hall hbel
      by_cases hlt : k < zs.length
      · have hcell := AT.out.at k hlt
        have hsn := ubc_snoc zs k hlt
        have htl := take_all_succ' hlt HAL.out (p := inB 1 6)
        have hfl := all_false_at' hlt (p := inB 1 6)
        have i1 : (k : Int) < (zs.length : Int) := by omega
        generalize zs.getD k 0 = x at *
        by_cases h1 : 1 ≤ x
        · have t1 := dec_f (show ¬ x < 1 by omega)
          by_cases h6 : x ≤ 6
          · have t2 := dec_f (show ¬ 6 < x by omega)
            have HSN := Lib.hid (hsn h1 h6)
            have HTL := Lib.hid (htl (inB_true ⟨h1, h6⟩))
            clear hsn htl hfl
            go_wp2_with (at_builtin; refine wpList_app1 slBy rfl (.tmp 28) (.tmp 31) rfl _ rfl HOW.out rfl rfl (by simp [Value.oneCell']) (by unfold maxLen; omega) (by omega) ?_; intro g' c' w' hown' hg' hat')
            have R : OwnV w' w.heap.size 5 1 g' c' (k + 1) (ubc (zs.take (k + 1))) := by rw [HSN.out]; exact hown'
            have RB := below_app HBE.out hg' HOW.out.le
            have RH := Lib.hid R
            have RBH := Lib.hid RB
            clear hown' hg' hat' R RB
            go_wp2
            go_roundw
            case rel => exact ⟨k + 1, g', c', by omega, by go_num, rfl, RH.out, HTL.out, RBH.out⟩
            case measure => simp [intOf]; omega
          · have t2 := dec_t (show 6 < x by omega)
            have hf := hfl (inB_false (by omega))
            have HF : Hid (bOk zs most = false) := Lib.hid (by rw [HOK.out, hf])
            clear hsn htl hfl hf
            go_wp2_with fail
            go_ret2
            have hv : bV zs most = ⟨#[]⟩ := by unfold bV; rw [HF.out]; rfl
            rw [HF.out, hv]
            exact ⟨rfl, HBE.out⟩
        · have t1 := dec_t (show x < 1 by omega)
          have hf := hfl (inB_false (by omega))
          have HF : Hid (bOk zs most = false) := Lib.hid (by rw [HOK.out, hf])
          clear hsn htl hfl hf
          go_wp2_with fail
          go_ret2
          have hv : bV zs most = ⟨#[]⟩ := by unfold bV; rw [HF.out]; rfl
          rw [HF.out, hv]
          exact ⟨rfl, HBE.out⟩
      · have hkn : k = zs.length := by omega
        have htk : zs.take k = zs := List.take_of_length_le (by omega)
        have hall : zs.all (inB 1 6) = true := by have := HAL.out; rw [htk] at this; exact this
        have hok : bOk zs most = true := by rw [HOK.out, hall]
        have hv : bV zs most = cbs zs := by unfold bV; rw [if_pos hok]
        have hcv := run_convert_bytes_back (P := Try.prog) wr 27 42 5 ⟨g, 0, none⟩ d (zs.map ub) Try.underlying27 Try.underlying5 Try.underlying42 (by
          intro j hj
          have hj' : j < zs.length := by simpa using hj
          rw [Addr.add_lit, Nat.zero_add, HOW.out.cell j (by omega), htk]
          simp [ubc, Lib.byteCells, hj'])
        have hml : (zs.map ub).length = k := by simp; omega
        rw [hml] at hcv
        have HV := Lib.hid hv
        have HOK2 := Lib.hid hok
        clear hall htk hkn hok hv hml
        go_wp2_with fail
        go_ret2
        rw [HV.out, HOK2.out]
        exact ⟨rfl, HBE.out⟩

set_option maxHeartbeats 400000 in
theorem codeOf_any (b off c : Nat) (zs : List Int) (w : World) (hn : zs.length ≤ 1048576) (hb : b < w.heap.size) (hc : AtInts w b off zs) :
    Calls Try.prog 34 #[.slice (some ⟨b, off, none⟩) zs.length c] w (RetSB (codeV zs) (codeB zs) w) := by
  by_cases h0 : zs.length = 0
  · have hcb : codeB zs = false := by unfold codeB grpB; rw [inB_false (by omega)]; simp
    have hv : codeV zs = ⟨#[]⟩ := by unfold codeV; rw [hcb]; rfl
    rw [hcb, hv]
    have t0 := beq_t (show (zs.length : Int) = 0 by omega)
    have t0' : (zs.length == 0) = true := by simpa using h0
    clear h0 hcb hv hc
    go_enter Try.func34, Try.ntmps34
    go_wp2_with fail
    go_ret2
    exact ⟨rfl, Below.refl _ _⟩
  · have hbo := beatsOf_any b off c zs 5 w hn (by omega) hb hc
    have e1 : bOk zs ((5 : Nat) : Int) = codeB zs := codeB_bOk (by omega)
    have e2 : bV zs ((5 : Nat) : Int) = codeV zs := by unfold bV codeV; rw [e1]
    rw [e1, e2] at hbo
    have HBO := Lib.hid hbo
    have t0 := beq_f (show (zs.length : Int) ≠ 0 by omega)
    have t0' : (zs.length == 0) = false := by simpa using h0
    clear hbo e1 e2 hc
    go_enter Try.func34, Try.ntmps34
    go_wp2_with fail
    refine HBO.out.mono ?_
    rintro e w1 ⟨rfl, hb1⟩
    have B1 := Lib.hid hb1
    clear hb1
    go_wp2_with fail
    go_ret2
    exact ⟨rfl, B1.out⟩

theorem cbs_size (zs : List Int) : (cbs zs).size = zs.length := by
  have : (cbs zs).size = (zs.map ub).length := List.size_toArray
  rw [this, List.length_map]
theorem cbs_get (zs : List Int) (k : Nat) (h : k < (cbs zs).size) : (cbs zs)[k] = ub (zs.getD k 0) := by
  have hk : k < zs.length := by rw [cbs_size] at h; exact h
  rw [show ub (zs.getD k 0) = (zs.map ub)[k]'(by simpa using hk) by simp [List.getD, hk]]
  rfl
theorem dgt_ub {z : Int} (h1 : 1 ≤ z) (h6 : z ≤ 6) : (48 + z : Int) = ((dgt z).toNat : Int) := by
  unfold dgt
  rw [UInt8.toNat_ofNat']
  omega
theorem byteCells_app (l m : List UInt8) : Lib.byteCells (l ++ m) = Lib.byteCells l ++ Lib.byteCells m := by simp [Lib.byteCells]

set_option maxHeartbeats 1600000 in
theorem btext_any (zs : List Int) (w : World) (hv : codeB zs = true) :
    Calls Try.prog 35 #[.string (cbs zs)] w fun e w' => e = .returned (.string (codeT zs)) ∧ Below w.heap.size w w' := by
  obtain ⟨hall, hl1, hl5⟩ := codeB_parts hv
  have hT : codeT zs = ⟨(ctk zs zs.length).toArray⟩ := by unfold codeT; rw [if_pos hv]
  rw [hT]
  have HALL := Lib.hid hall
  have hz := cbs_size zs
  have hget := cbs_get zs
  have HGET := Lib.hid hget
  have HZ := Lib.hid hz
  have z1 : (cbs zs).size ≤ 5 := by omega
  have IB := Lib.hid (bld_fresh w.heap.size w (Nat.le_refl _))
  have HB0 := Lib.hid (below_new w (.cells #[.pointer none, .slice none 0 0] 61))
  clear hall hv hT hz hget
  go_enter Try.func35, Try.ntmps35
  go_wp2_with fail
  go_loopw [7] (fun q wr => ∃ k : Nat, k ≤ (cbs zs).size ∧ q = .int .i64 k ∧ IsBld w.heap.size w.heap.size (Lib.byteCells (ctk zs k)) wr ∧ Below w.heap.size w wr) (fun q _ => (cbs zs).size - (intOf q).toNat)
  case atStart => exact ⟨0, by omega, rfl, IB.out, HB0.out⟩
  case round =>
    clear IB HB0
    obtain ⟨k, hk, rfl, hib, hbel⟩ := hrel
    have IB := Lib.hid hib
    have HB := Lib.hid hbel
    clear hib hbel
    have hln : (Lib.byteCells (ctk zs k)).length ≤ 20 := by rw [Lib.byteCells_length, ctk_length]; omega
    by_cases hlt : k < (cbs zs).size
    · have hkz : k < zs.length := by rw [← HZ.out]; exact hlt
      have hx := all_at HALL.out hkz
      have hg := HGET.out k hlt
      have hct : ctk zs (k + 1) = ctk zs k ++ (if 0 < k then [45] else []) ++ [dgt (zs.getD k 0)] := rfl
      generalize zs.getD k 0 = x at *
      rw [inB_iff] at hx
      obtain ⟨hx1, hx6⟩ := hx
      have hdg := dgt_ub hx1 hx6
      have hub := ub_toNat hx1 hx6
      have i1 : (k : Int) < ((cbs zs).size : Int) := by omega
      have hgv : (((cbs zs)[k]'hlt).toNat : Int) = x := by rw [hg]; exact hub
      have hu1 : ((cbs zs)[k]'hlt).toNat ≤ 6 := by omega
      have HGV := Lib.hid hgv
      by_cases hk0 : 0 < k
      · rw [if_pos hk0] at hct
        have HCT := Lib.hid hct
        have HDG := Lib.hid hdg
        have t1 := dec_t (show (0 : Int) < (k : Int) by omega)
        have t1' := dec_t hk0
        clear hct hdg hub hg hgv
        go_wp2_with fail
        refine (writeByte_any w.heap.size w.heap.size _ 45 _ IB.out (by omega) HB.out.size).mono ?_
        rintro e w1 ⟨rfl, h1, hb1⟩
        have I1 := Lib.hid (Or.inr h1 : IsBld w.heap.size w.heap.size (Lib.byteCells (ctk zs k) ++ [.int .u8 45]) w1)
        have B1 := Lib.hid (HB.out.trans hb1)
        clear h1 hb1
        go_wp2_with fail
        refine (writeByte_any w.heap.size w.heap.size _ _ _ I1.out (by rw [List.length_append]; simp; omega) B1.out.size).mono ?_
        rintro e w2 ⟨rfl, h2, hb2⟩
        have h3 : IsBld w.heap.size w.heap.size (Lib.byteCells (ctk zs (k + 1))) w2 := by
          refine Or.inr ?_
          rw [HCT.out, byteCells_app, byteCells_app]
          have e : Lib.byteCells [dgt x] = [.int .u8 (48 + (((cbs zs)[k]'hlt).toNat : Int))] := by
            rw [HGV.out, HDG.out]; rfl
          rw [e]
          exact h2
        have I2 := Lib.hid h3
        have B2 := Lib.hid (B1.out.trans hb2)
        clear h2 hb2 h3
        go_wp2_with fail
        go_roundw
        case rel => exact ⟨k + 1, by omega, by go_num, I2.out, B2.out⟩
        case measure => simp [intOf]; omega
      · rw [if_neg hk0, List.append_nil] at hct
        have HCT := Lib.hid hct
        have HDG := Lib.hid hdg
        have t1 := dec_f (show ¬ (0 : Int) < (k : Int) by omega)
        have t1' := dec_f hk0
        clear hct hdg hub hg hgv
        go_wp2_with fail
        refine (writeByte_any w.heap.size w.heap.size _ _ _ IB.out (by omega) HB.out.size).mono ?_
        rintro e w2 ⟨rfl, h2, hb2⟩
        have h3 : IsBld w.heap.size w.heap.size (Lib.byteCells (ctk zs (k + 1))) w2 := by
          refine Or.inr ?_
          rw [HCT.out, byteCells_app]
          have e : Lib.byteCells [dgt x] = [.int .u8 (48 + (((cbs zs)[k]'hlt).toNat : Int))] := by
            rw [HGV.out, HDG.out]; rfl
          rw [e]
          exact h2
        have I2 := Lib.hid h3
        have B2 := Lib.hid (HB.out.trans hb2)
        clear h2 hb2 h3
        go_wp2_with fail
        go_roundw
        case rel => exact ⟨k + 1, by omega, by go_num, I2.out, B2.out⟩
        case measure => simp [intOf]; omega
    · have hkn : k = zs.length := by have := HZ.out; omega
      have HK := Lib.hid hkn
      clear hkn
      go_wp2_with fail
      refine (bldString_any w.heap.size w.heap.size (ctk zs k) _ IB.out HB.out.size).mono ?_
      rintro e w1 ⟨rfl, hb1⟩
      have B1 := Lib.hid (HB.out.trans hb1)
      clear hb1
      go_wp2_with fail
      go_ret
      exact ⟨ret_str (by rw [HK.out]), B1.out⟩

set_option maxHeartbeats 400000 in
theorem impl_codet (b off c : Nat) (zs : List Int) (w : World) (hn : zs.length ≤ 1048576) (hb : b < w.heap.size) (hc : AtInts w b off zs) :
    Calls Try.prog 11 #[.slice (some ⟨b, off, none⟩) zs.length c] w fun e w' => e = .returned (.string (codeT zs)) ∧ Below w.heap.size w w' := by
  have hco := codeOf_any b off c zs w hn hb hc
  by_cases hv : codeB zs = true
  · have e2 : codeV zs = cbs zs := by unfold codeV; rw [if_pos hv]
    rw [hv, e2] at hco
    have HCO := Lib.hid hco
    have HV := Lib.hid hv
    clear hco hv e2 hc
    go_enter Try.func11, Try.ntmps11
    go_wp2_with fail
    refine HCO.out.mono ?_
    rintro e w1 ⟨rfl, hb1⟩
    have B1 := Lib.hid hb1
    clear hb1
    go_wp2_with fail
    refine (btext_any zs _ HV.out).mono ?_
    rintro e w2 ⟨rfl, hb2⟩
    have B2 := Lib.hid (below_to B1.out hb2 B1.out.size)
    clear hb2
    go_wp2_with fail
    go_ret
    exact ⟨rfl, B2.out⟩
  · have hv' : codeB zs = false := by simpa using hv
    have e1 : codeT zs = ⟨#[]⟩ := by unfold codeT; rw [if_neg hv]
    rw [hv'] at hco
    rw [e1]
    have HCO := Lib.hid hco
    clear hco hv hv' e1 hc
    go_enter Try.func11, Try.ntmps11
    go_wp2_with fail
    refine HCO.out.mono ?_
    rintro e w1 ⟨rfl, hb1⟩
    have B1 := Lib.hid hb1
    clear hb1
    go_wp2_with fail
    go_ret
    exact ⟨rfl, B1.out⟩

set_option maxHeartbeats 400000 in
theorem impl_codev (b off c : Nat) (zs : List Int) (w : World) (hn : zs.length ≤ 1048576) (hb : b < w.heap.size) (hc : AtInts w b off zs) :
    Calls Try.prog 31 #[.slice (some ⟨b, off, none⟩) zs.length c] w fun e w' => e = .returned (.bool (codeB zs)) ∧ Below w.heap.size w w' := by
  have HCO := Lib.hid (codeOf_any b off c zs w hn hb hc)
  clear hc
  go_enter Try.func31, Try.ntmps31
  go_wp2_with fail
  refine HCO.out.mono ?_
  rintro e w1 ⟨rfl, hb1⟩
  have B1 := Lib.hid hb1
  clear hb1
  go_wp2_with fail
  go_ret
  exact ⟨rfl, B1.out⟩

end Go.Proofs.Ytgjgedmciiolmaa
