/-
  Codes: groups of beats, their text. The reference's l1Groups, CodeValid, l6Dec, CodeText; the program's beatsOf, codeOf, text, CodeText, CodeValid. No condition but lengths that fit.
-/
import Derived.Test.YtgjgedmciiolmaaBuild
namespace Go.Proofs.Ytgjgedmciiolmaa
open Go.RowKit
set_option linter.unusedVariables false

theorem slBy : SlT 27 5 1 1 (.int .u8 0) := ⟨Try.underlying27, info_parts (by kernel_rfl), rfl, by decide⟩
def grpB (zs : List Int) (lo hi : Int) : Bool := zs.all (inB 1 6) && inB lo hi zs.length
def codeB (zs : List Int) : Bool := grpB zs 1 5
def ub (z : Int) : UInt8 := UInt8.ofNat z.toNat
def cbs (zs : List Int) : ByteArray := ⟨(zs.map ub).toArray⟩
def dgt (z : Int) : UInt8 := UInt8.ofNat (48 + z.toNat)
/-- The text of the first k groups. -/
def ctk (zs : List Int) : Nat → List UInt8
  | 0 => []
  | k + 1 => ctk zs k ++ (if 0 < k then [45] else []) ++ [dgt (zs.getD k 0)]
def codeT (zs : List Int) : ByteArray := if codeB zs = true then ⟨(ctk zs zs.length).toArray⟩ else ⟨#[]⟩
theorem ctk_length (zs : List Int) (k : Nat) : (ctk zs k).length = 2 * k - 1 := by
  induction k with
  | zero => rfl
  | succ k ih =>
    simp only [ctk, List.length_append, ih]
    split <;> simp <;> omega
def ctS (zs : List Int) (k : Nat) : ByteArray := ⟨(ctk zs k).toArray⟩
theorem ctS_size (zs : List Int) (k : Nat) : (ctS zs k).size = 2 * k - 1 := by
  rw [← ctk_length zs k]; exact List.size_toArray
theorem ctS_succ (zs : List Int) (k : Nat) (hk : 0 < k) : ctS zs (k + 1) = ctS zs k ++ ⟨#[45]⟩ ++ ⟨#[dgt (zs.getD k 0)]⟩ := by
  have e1 := ByteArray.mk_append_mk (ctk zs k) [45]
  have e2 := ByteArray.mk_append_mk (ctk zs k ++ [45]) [dgt (zs.getD k 0)]
  unfold ctS
  simp only [ctk]
  rw [if_pos hk, ← e2, ← e1]
theorem ctS_one (zs : List Int) : ctS zs 1 = ctS zs 0 ++ ⟨#[dgt (zs.getD 0 0)]⟩ := by
  have e1 := ByteArray.mk_append_mk (ctk zs 0) [dgt (zs.getD 0 0)]
  have e0 : ctk zs 1 = ctk zs 0 ++ [dgt (zs.getD 0 0)] := by simp [ctk]
  unfold ctS
  rw [e0]
  exact e1.symm
theorem codeB_parts {zs : List Int} (h : codeB zs = true) : zs.all (inB 1 6) = true ∧ 1 ≤ zs.length ∧ zs.length ≤ 5 := by
  unfold codeB grpB at h
  rw [Bool.and_eq_true, inB_iff] at h
  exact ⟨h.1, by omega, by omega⟩
theorem all_at {p : Int → Bool} {zs : List Int} (h : zs.all p = true) {k : Nat} (hk : k < zs.length) : p (zs.getD k 0) = true := by
  rw [List.all_eq_true] at h
  exact h _ (by simp [List.getD, hk])
theorem take_all_succ' {p : Int → Bool} {zs : List Int} {k : Nat} (hk : k < zs.length) (h : (zs.take k).all p = true) (hp : p (zs.getD k 0) = true) : (zs.take (k + 1)).all p = true := by
  rw [List.take_succ_eq_append_getElem hk, List.all_append, h]
  simp [List.getD, hk] at hp
  simp [hp]
theorem all_false_at' {p : Int → Bool} {zs : List Int} {k : Nat} (hk : k < zs.length) (hp : p (zs.getD k 0) = false) : zs.all p = false := by
  rw [List.all_eq_false]
  exact ⟨zs[k], List.getElem_mem hk, by simp [List.getD, hk] at hp; simp [hp]⟩

set_option maxHeartbeats 400000 in
theorem l1Groups_any (b off c : Nat) (lo hi : Int) (zs : List Int) (w : World) (hn : zs.length ≤ 9223372036854775807) (hc : AtInts w b off zs) :
    Calls Try.prog 51 #[.slice (some ⟨b, off, none⟩) zs.length c, .int .i64 lo, .int .i64 hi] w fun e w' => e = .returned (.bool (grpB zs lo hi)) ∧ w = w' := by
  generalize hr : grpB zs lo hi = r
  have HR := Lib.hid hr
  have HC := Lib.hid hc
  clear hc hr
  go_enter Try.func51, Try.ntmps51
  go_wp2_with fail
  go_loop [7] (fun i => ∃ k : Nat, k ≤ zs.length ∧ i = .int .i64 k ∧ (zs.take k).all (inB 1 6) = true) (fun i => zs.length - (intOf i).toNat)
  case atStart => exact ⟨0, Nat.zero_le _, rfl, rfl⟩
  case round =>
    obtain ⟨k, hk, rfl, ha⟩ := hrel
    have HA := Lib.hid ha
    clear ha
    by_cases hlt : k < zs.length
    · have hcell := HC.out.at k hlt
      obtain ⟨x, hx⟩ : ∃ x, zs.getD k 0 = x := ⟨_, rfl⟩
      rw [hx] at hcell
      have HX := Lib.hid hx
      clear hx
      by_cases h1 : inB 1 6 x = true
      · go_wp2_with (go_at_call 55; refine (l6In_any _ _ _ _).mono ?_; rintro e w' ⟨rfl, rfl⟩)
        go_round
        case rel => exact ⟨k + 1, by omega, by go_num, take_all_succ' hlt HA.out (by rw [HX.out]; exact h1)⟩
        case measure => simp [intOf]; omega
      · have h2 : inB 1 6 x = false := by simpa using h1
        clear h1
        go_wp2_with (go_at_call 55; refine (l6In_any _ _ _ _).mono ?_; rintro e w' ⟨rfl, rfl⟩)
        go_ret
        exact ⟨ret_bool (by rw [← HR.out]; unfold grpB; rw [all_false_at' hlt (by rw [HX.out]; exact h2)]; simp), rfl⟩
    · go_wp2_with (go_at_call 55; refine (l6In_any _ _ _ _).mono ?_; rintro e w' ⟨rfl, rfl⟩)
      go_ret
      refine ⟨ret_bool ?_, rfl⟩
      rw [← HR.out]; unfold grpB
      have := HA.out
      rw [List.take_of_length_le (by omega)] at this
      rw [this]; simp

set_option maxHeartbeats 400000 in
theorem spec_codev (b off c : Nat) (zs : List Int) (w : World) (hn : zs.length ≤ 9223372036854775807) (hc : AtInts w b off zs) :
    Calls Try.prog 32 #[.slice (some ⟨b, off, none⟩) zs.length c] w fun e w' => e = .returned (.bool (codeB zs)) ∧ w = w' := by
  have HG := Lib.hid (l1Groups_any b off c 1 5 zs w hn hc)
  clear hc
  go_enter Try.func32, Try.ntmps32
  go_wp2_with fail
  refine HG.out.mono ?_
  rintro e w' ⟨rfl, rfl⟩
  go_wp2_with fail
  go_ret
  exact ⟨rfl, rfl⟩

set_option maxHeartbeats 400000 in
theorem l6Dec_dgt (n : Int) (w : World) (h0 : 0 ≤ n) (h9 : n ≤ 9) :
    Calls Try.prog 33 #[.int .i64 n] w fun e w' => e = .returned (.string ⟨#[dgt n]⟩) ∧ Below w.heap.size w w' := by
  have t0 := dec_f (show ¬ n < -9223372036854775807 by omega)
  have t1 := dec_f (show ¬ n < 0 by omega)
  have t2 := dec_t (show n < 10 by omega)
  have hcv := run_convert_bytes_back (P := Try.prog) (w.alloc (.cells #[.int .u8 (48 + n)] 5)) 27 9 5 ⟨w.heap.size, 0, none⟩ 1 [dgt n] Try.underlying27 Try.underlying5 Try.underlying9 (by
    intro i hi
    have hi0 : i = 0 := by simpa using hi
    subst hi0
    rw [Addr.add_lit, cell_of_row _ w.heap.size (0 + 0) #[.int .u8 (48 + n)] 5 (0, 0) (heap_alloc_new w _)]
    simp [dgt, UInt8.toNat_ofNat']
    omega)
  simp only [List.length_cons, List.length_nil, Nat.zero_add] at hcv
  have HB := Lib.hid (below_new w (.cells #[.int .u8 (48 + n)] 5))
  go_enter Try.func33, Try.ntmps33
  go_wp2_with fail
  go_ret
  exact ⟨rfl, HB.out⟩

theorem str_app (l m : List UInt8) : (⟨l.toArray⟩ : ByteArray) ++ ⟨m.toArray⟩ = ⟨(l ++ m).toArray⟩ := ByteArray.mk_append_mk l m

set_option maxHeartbeats 800000 in
theorem spec_codet (b off c : Nat) (zs : List Int) (w : World) (hn : zs.length ≤ 9223372036854775807) (hb : b < w.heap.size) (hc : AtInts w b off zs) :
    Calls Try.prog 9 #[.slice (some ⟨b, off, none⟩) zs.length c] w fun e w' => e = .returned (.string (codeT zs)) ∧ Below w.heap.size w w' := by
  have HC := Lib.hid hc
  by_cases hv : codeB zs = true
  · obtain ⟨hall, hl1, hl5⟩ := codeB_parts hv
    have hT : codeT zs = ctS zs zs.length := by unfold codeT; rw [if_pos hv]; rfl
    rw [hT]
    have HALL := Lib.hid hall
    have HV := Lib.hid hv
    clear hc hv hall hT
    go_enter Try.func9, Try.ntmps9
    go_wp2_with fail
    go_loopw [3, 4] (fun v q wr => ∃ k : Nat, k ≤ zs.length ∧ q = .int .i64 k ∧ v = .string (ctS zs k) ∧ Below w.heap.size w wr) (fun _ q _ => zs.length - (intOf q).toNat)
    case atStart => exact ⟨0, by omega, rfl, rfl, Below.refl _ _⟩
    case round =>
      obtain ⟨k, hk, rfl, rfl, hbel⟩ := hrel
      have HB := Lib.hid hbel
      have AT := Lib.hid (HC.out.below hbel hb)
      clear hbel
      by_cases hlt : k < zs.length
      · have hcell := AT.out.at k hlt
        have hx := all_at HALL.out hlt
        have hct1 := ctS_succ zs k
        have hct0 := ctS_one zs
        have hsz := ctS_size zs k
        have hsz' : (ctS zs k).size ≤ 20 := by omega
        by_cases hk0 : 0 < k
        · have hct := hct1 hk0
          generalize zs.getD k 0 = x at *
          rw [inB_iff] at hx
          obtain ⟨hx1, hx6⟩ := hx
          have i1 : (k : Int) < (zs.length : Int) := by omega
          have hcv := spec_codev b off c zs wr hn AT.out
          rw [HV.out] at hcv
          have HCV := Lib.hid hcv
          have t1 := dec_t (show (0 : Int) < (k : Int) by omega)
          have t1' := dec_t hk0
          have HCT := Lib.hid hct
          clear hcv hct hct1 hct0 hsz
          generalize ctS zs k = Z at *
          have hsz2 : (Z ++ ⟨#[45]⟩ : ByteArray).size ≤ 21 := by rw [ByteArray.size_append]; show _ + 1 ≤ _; omega
          go_wp2_with fail
          refine HCV.out.mono ?_
          rintro e w' ⟨rfl, rfl⟩
          go_wp2_with fail
          refine (l6Dec_dgt x _ (by omega) (by omega)).mono ?_
          rintro e w2 ⟨rfl, hb2⟩
          have B2 := Lib.hid (below_to HB.out hb2 HB.out.size)
          clear hb2
          go_wp2_with fail
          go_roundw
          case rel => exact ⟨k + 1, by omega, by go_num, by rw [HCT.out], B2.out⟩
          case measure => simp [intOf]; omega
        · obtain rfl : k = 0 := by omega
          rw [Nat.add_zero] at hcell
          generalize zs.getD 0 0 = x at *
          rw [inB_iff] at hx
          obtain ⟨hx1, hx6⟩ := hx
          have hcv := spec_codev b off c zs wr hn AT.out
          rw [HV.out] at hcv
          have HCV := Lib.hid hcv
          have HCT := Lib.hid hct0
          have t1 := dec_t hlt
          have t1' := dec_t (show (0 : Int) < (zs.length : Int) by omega)
          clear hcv hct1 hct0 hsz
          generalize ctS zs 0 = Z at *
          go_wp2_with fail
          refine HCV.out.mono ?_
          rintro e w' ⟨rfl, rfl⟩
          go_wp2_with fail
          refine (l6Dec_dgt x _ (by omega) (by omega)).mono ?_
          rintro e w2 ⟨rfl, hb2⟩
          have B2 := Lib.hid (below_to HB.out hb2 HB.out.size)
          clear hb2
          go_wp2_with fail
          go_roundw
          case rel => exact ⟨1, by omega, by go_num, by rw [HCT.out], B2.out⟩
          case measure => simp [intOf]; omega
      · have hkn : k = zs.length := by omega
        have HK := Lib.hid hkn
        clear hkn
        go_wp2_with fail
        go_ret
        exact ⟨ret_str (by rw [HK.out]), HB.out⟩
  · have hv' : codeB zs = false := by simpa using hv
    have hT : codeT zs = ⟨#[]⟩ := by unfold codeT; rw [if_neg hv]
    rw [hT]
    have hcv := spec_codev b off c zs w hn hc
    rw [hv'] at hcv
    have HCV := Lib.hid hcv
    clear hcv hc hv hv' hT
    by_cases hl : 0 < zs.length
    · have t0 := dec_t hl
      have t0' := dec_t (show (0 : Int) < (zs.length : Int) by omega)
      go_enter Try.func9, Try.ntmps9
      go_wp2_with fail
      go_loop [3, 4] (fun v q => v = .string ⟨#[]⟩ ∧ q = .int .i64 0) (fun _ _ => 0)
      case atStart => exact ⟨rfl, rfl⟩
      case round =>
        obtain ⟨rfl, rfl⟩ := hrel
        go_wp2_with fail
        refine HCV.out.mono ?_
        rintro e w' ⟨rfl, rfl⟩
        go_wp2_with fail
        go_ret
        exact ⟨rfl, Below.refl _ _⟩
    · have hnil : zs = [] := List.eq_nil_of_length_eq_zero (by omega)
      subst hnil
      go_enter Try.func9, Try.ntmps9
      go_wp2_with fail
      go_loop [3, 4] (fun v q => v = .string ⟨#[]⟩ ∧ q = .int .i64 0) (fun _ _ => 0)
      case atStart => exact ⟨rfl, rfl⟩
      case round =>
        obtain ⟨rfl, rfl⟩ := hrel
        go_wp2_with fail
        go_ret
        exact ⟨rfl, Below.refl _ _⟩

end Go.Proofs.Ytgjgedmciiolmaa
