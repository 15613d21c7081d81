/-
  Registers in memory: registerOf, text, until, without. No condition but lengths that fit.
-/
import Derived.Test.YtebejpaghajhkaaRg3
import Derived.Test.YtebejpaghajhkaaBuild
namespace Go.Proofs.Ytebejpaghajhkaa
open Go.RowKit
set_option linter.unusedVariables false
set_option linter.unusedSimpArgs false

theorem reg_new (w : World) (base : Nat) (hb : base ≤ w.heap.size) : Reg (w.alloc (.cells #[.pointer none, .pointer none, .int .i64 0] 80)) base w.heap.size (fun _ => 0) [] :=
  ⟨Blk.new _ _ _, fun k hk => absurd hk (by simp), hb, fun k hk => absurd hk (by simp), fun j k _ hk => absurd hk (by simp)⟩
/-- What registerOf leaves. -/
def RegV (w : World) (ns : List NV) (V : Bool) (e : Ending) (w' : World) : Prop := ∃ R : Nat, e = .returned (.tuple #[.pointer (some ⟨R, 0, none⟩), .bool V]) ∧ Below w.heap.size w w' ∧ (V = true → ∃ E, Reg w' w.heap.size R E ns)
set_option maxHeartbeats 1600000 in
theorem registerOf_any (A : Option Addr) (c : Nat) (ns : List NV) (w : World) (hn : ns.length ≤ 9223372036854775807) (hsz : ∀ k, k < ns.length → (ns.getD k Z2).2.size ≤ 9223372036854775807) (hr : RdNt w A ns) :
    Calls Try.prog 55 #[.slice A ns.length c] w (RegV w ns (regB ns)) := by
  have R1 := Lib.hid (reg_new w w.heap.size (Nat.le_refl _))
  have B1 := Lib.hid (below_new w (.cells #[.pointer none, .pointer none, .int .i64 0] 80))
  have HR := Lib.hid hr
  have HSZ := Lib.hid hsz
  clear hr hsz
  by_cases hl : ns.length ≤ 30
  · have t0 := dec_f (show ¬ (30 : Int) < (ns.length : Int) by omega)
    go_enter Try.func55, Try.ntmps55
    go_wp2_with fail
    generalize w.alloc (.cells #[.pointer none, .pointer none, .int .i64 0] 80) = W1 at *
    go_loopw [15] (fun i wr => ∃ (k : Nat) (E : Nat → Nat), k ≤ ns.length ∧ i = .int .i64 k ∧ Reg wr w.heap.size w.heap.size E (ns.take k) ∧ Below w.heap.size w wr) (fun i _ => ns.length - (intOf i).toNat)
    case atStart => exact ⟨0, _, Nat.zero_le _, rfl, by simpa using R1.out, B1.out⟩
    case round =>
      clear R1 B1
      obtain ⟨k, E, hk, rfl, hreg, hbel⟩ := hrel
      have HG := Lib.hid hreg
      have HB := Lib.hid hbel
      clear hreg hbel
      by_cases hlt : k < ns.length
      · obtain ⟨b, off, rfl, hb, hat⟩ := HR.out (by omega)
        obtain ⟨p0, p1⟩ := hat.below HB.out hb k hlt
        have htk := take_snocN hlt
        have hlen : (ns.take k).length = k := by simp; omega
        obtain ⟨⟨m, s⟩, hx⟩ : ∃ x, ns.getD k Z2 = x := ⟨_, rfl⟩
        rw [hx] at p0 p1 htk
        simp only at p0 p1
        have i1 : (k : Int) < (ns.length : Int) := by omega
        have HP := Lib.hid (put_any w.heap.size w.heap.size E (ns.take k) m s (wr.alloc (.cells #[.int .i64 m, .string s] 48)) (by omega) (HG.out.alloc _))
        have HB2 := Lib.hid (below_new' HB.out (.cells #[.int .i64 m, .string s] 48))
        have HTK := Lib.hid htk
        clear hat hx htk hlen
        go_wp2_with fail
        refine HP.out.mono ?_
        rintro e w2 ⟨rfl, hex, hb2⟩
        obtain ⟨E2, hr2⟩ := hex
        have R2 : Hid (Reg w2 w.heap.size w.heap.size E2 (ns.take (k + 1))) := Lib.hid (by rw [HTK.out]; exact hr2)
        have B2 := Lib.hid (HB2.out.trans hb2)
        clear hr2 hb2
        go_wp2_with fail
        go_roundw
        case rel => exact ⟨k + 1, E2, by omega, by go_num, R2.out, B2.out⟩
        case measure => simp [intOf]; omega
      · obtain rfl : k = ns.length := by omega
        have htk : ns.take ns.length = ns := List.take_length
        rw [htk] at HG
        have HV := Lib.hid (valid_any w.heap.size w.heap.size E ns wr (by omega) HSZ.out HG.out)
        clear htk
        generalize regB ns = V at *
        go_wp2_with fail
        refine HV.out.mono ?_
        rintro e w2 ⟨rfl, rfl⟩
        go_wp2_with fail
        go_ret2
        exact ⟨w.heap.size, rfl, HB.out, fun _ => ⟨E, HG.out⟩⟩
  · rw [regB_long hl]
    have t0 := dec_t (show (30 : Int) < (ns.length : Int) by omega)
    go_enter Try.func55, Try.ntmps55
    go_wp2_with fail
    go_ret2
    exact ⟨w.heap.size, rfl, B1.out, fun h => by cases h⟩

set_option maxHeartbeats 1600000 in
theorem text_any (base R : Nat) (E : Nat → Nat) (ns : List NV) (w : World) (hv : regB ns = true) (hr : Reg w base R E ns) :
    Calls Try.prog 58 #[.pointer (some ⟨R, 0, none⟩)] w fun e w' => e = .returned (.string (txt ns)) ∧ Below w.heap.size w w' := by
  have hl := reg_len hv
  have HV := Lib.hid hv
  have RR := Lib.hid hr
  have I1 := Lib.hid (bld_fresh w.heap.size w (Nat.le_refl _))
  have B1 := Lib.hid (below_new w (.cells #[.pointer none, .slice none 0 0] 88))
  obtain ⟨c0, _⟩ := (hr.alloc (.cells #[.pointer none, .slice none 0 0] 88)).cells
  clear hv hr
  go_enter Try.func58, Try.ntmps58
  go_wp2_with fail
  generalize w.alloc (.cells #[.pointer none, .slice none 0 0] 88) = W1 at *
  go_wp2_with fail
  go_loopg [4] ns.length (fun q e wr => ∃ k : Nat, k ≤ ns.length ∧ q = ns.length - k ∧ e = .pointer (nxA E ns.length k) ∧ IsBld w.heap.size w.heap.size (Lib.byteCells (txK ns k).data.toList) wr ∧ Below w.heap.size w wr)
  case atStart => exact ⟨0, Nat.zero_le _, by omega, rfl, I1.out, B1.out⟩
  case round =>
    clear I1 B1 c0
    obtain ⟨k, hk, hgk, rfl, hI, hbel⟩ := hrel
    have HGK := Lib.hid hgk
    have HI := Lib.hid hI
    have HB := Lib.hid hbel
    clear hgk hI hbel
    by_cases hlt : k < ns.length
    · have he := nxA_t (E := E) hlt
      obtain ⟨d0, d1, d2, _, _, _⟩ := (RR.out.below HB.out).entry k hlt
      have hz := (reg_bd HV.out k hlt).2
      have hts := txK_size HV.out k hk
      have htx : txK ns (k + 1) = txK ns k ++ (ns.getD k Z2).2 := rfl
      obtain ⟨⟨m, s⟩, hx⟩ : ∃ x, ns.getD k Z2 = x := ⟨_, rfl⟩
      rw [hx] at d0 d1 hz htx
      simp only at d0 d1 hz htx
      rw [he]
      have HW := Lib.hid (writeString_any w.heap.size w.heap.size (Lib.byteCells (txK ns k).data.toList) s wr HI.out (by rw [Lib.byteCells_length]; have : (txK ns k).data.toList.length = (txK ns k).size := Array.length_toList; omega) HB.out.size)
      have HTX := Lib.hid htx
      have HLT := Lib.hid hlt
      have d2' := d2
      clear hx he hz htx hts hlt d0
      go_wp2_with fail
      refine HW.out.mono ?_
      rintro e w2 ⟨rfl, hb2, hbl2⟩
      have I2 : Hid (IsBld w.heap.size w.heap.size (Lib.byteCells (txK ns (k + 1)).data.toList) w2) := Lib.hid (by
        rw [HTX.out, ByteArray.data_append, Array.toList_append, Lib.byteCells_append, ← Lib.strCells_eq]
        exact .inr hb2)
      have B2 := Lib.hid (HB.out.trans hbl2)
      obtain ⟨_, _, e2, _, _, _⟩ := (RR.out.below B2.out).entry k HLT.out
      clear hb2 hbl2 d1 d2 d2'
      go_wp2_with fail
      go_roundg (ns.length - (k + 1))
      case measure => have := HLT.out; have := HGK.out; omega
      case rel => exact ⟨k + 1, by have := HLT.out; omega, rfl, rfl, I2.out, B2.out⟩
    · have he := nxA_f (E := E) hlt
      rw [he]
      obtain rfl : k = ns.length := by omega
      have HS := Lib.hid (bldString_any w.heap.size w.heap.size (txK ns ns.length).data.toList wr HI.out HB.out.size)
      have HTT : Hid ((⟨(txK ns ns.length).data.toList.toArray⟩ : ByteArray) = txt ns) := Lib.hid rfl
      clear he hlt
      go_wp2_with fail
      refine HS.out.mono ?_
      rintro e w2 ⟨rfl, hb2⟩
      have B2 := Lib.hid (HB.out.trans hb2)
      clear hb2
      go_wp2_with fail
      go_ret
      exact ⟨ret_str HTT.out, B2.out⟩

/-- What a function that makes a register of another one leaves. -/
def NewReg (w : World) (ns : List NV) (e : Ending) (w' : World) : Prop := ∃ (R : Nat) (E : Nat → Nat), e = .returned (.pointer (some ⟨R, 0, none⟩)) ∧ Reg w' w.heap.size R E ns ∧ Below w.heap.size w w'
set_option maxHeartbeats 1600000 in
theorem until_any (base R : Nat) (E : Nat → Nat) (ns : List NV) (x : Int) (w : World) (hl : ns.length ≤ 30) (hr : Reg w base R E ns) :
    Calls Try.prog 69 #[.pointer (some ⟨R, 0, none⟩), .int .i64 x] w (NewReg w (ns.take (unN ns x))) := by
  have RR := Lib.hid hr
  have R1 := Lib.hid (reg_new w w.heap.size (Nat.le_refl _))
  have B1 := Lib.hid (below_new w (.cells #[.pointer none, .pointer none, .int .i64 0] 80))
  obtain ⟨c0, _⟩ := (hr.alloc (.cells #[.pointer none, .pointer none, .int .i64 0] 80)).cells
  clear hr
  go_enter Try.func69, Try.ntmps69
  go_wp2_with fail
  generalize w.alloc (.cells #[.pointer none, .pointer none, .int .i64 0] 80) = W1 at *
  go_wp2_with fail
  go_loopg [6] ns.length (fun q e wr => ∃ (k : Nat) (E' : Nat → Nat), k ≤ ns.length ∧ q = ns.length - k ∧ e = .pointer (nxA E ns.length k) ∧ Hid (unK ns x k = k) ∧ Reg wr w.heap.size w.heap.size E' (ns.take k) ∧ Below w.heap.size w wr)
  case atStart => exact ⟨0, _, Nat.zero_le _, by omega, rfl, Lib.hid rfl, by simpa using R1.out, B1.out⟩
  case round =>
    clear R1 B1 c0
    obtain ⟨k, E', hk, hgk, rfl, HU, hreg, hbel⟩ := hrel
    have HGK := Lib.hid hgk
    have HG := Lib.hid hreg
    have HB := Lib.hid hbel
    clear hgk hreg hbel
    by_cases hlt : k < ns.length
    · have he := nxA_t (E := E) hlt
      obtain ⟨d0, d1, d2, _, _, _⟩ := (RR.out.below HB.out).entry k hlt
      have htk := take_snocN hlt
      have hlen : (ns.take k).length = k := by simp; omega
      obtain ⟨⟨m, s⟩, hx⟩ : ∃ x, ns.getD k Z2 = x := ⟨_, rfl⟩
      rw [hx] at d0 d1 htk
      simp only at d0 d1
      rw [he]
      have HLT := Lib.hid hlt
      by_cases hm : m ≤ x
      · have HU2 : Hid (unK ns x (k + 1) = k + 1) := Lib.hid (unK_next HU.out (by rw [hx]; exact hm))
        have HP := Lib.hid (put_any w.heap.size w.heap.size E' (ns.take k) m s wr (by omega) HG.out)
        have HTK := Lib.hid htk
        clear hx he htk hlt hlen
        go_wp2_with fail
        refine HP.out.mono ?_
        rintro e w2 ⟨rfl, hex, hb2⟩
        obtain ⟨E2, hr2⟩ := hex
        have R2 : Hid (Reg w2 w.heap.size w.heap.size E2 (ns.take (k + 1))) := Lib.hid (by rw [HTK.out]; exact hr2)
        have B2 := Lib.hid (HB.out.trans hb2)
        obtain ⟨_, _, e2, _, _, _⟩ := (RR.out.below B2.out).entry k HLT.out
        clear hr2 hb2 d0 d1 d2
        go_wp2_with fail
        go_roundg (ns.length - (k + 1))
        case measure => have := HLT.out; have := HGK.out; omega
        case rel => exact ⟨k + 1, E2, by have := HLT.out; omega, rfl, rfl, HU2, R2.out, B2.out⟩
      · have hun : unN ns x = k := unK_stop HU.out (by rw [hx]; exact hm) hlt
        have HUN := Lib.hid hun
        clear hx he htk hlt hlen hun
        go_wp2_with fail
        go_ret
        exact ⟨w.heap.size, E', rfl, by rw [HUN.out]; exact HG.out, HB.out⟩
    · have he := nxA_f (E := E) hlt
      rw [he]
      obtain rfl : k = ns.length := by omega
      have HUN : Hid (unN ns x = ns.length) := Lib.hid HU.out
      clear he hlt
      go_wp2_with fail
      go_ret
      exact ⟨w.heap.size, E', rfl, by rw [HUN.out]; exact HG.out, HB.out⟩

theorem woK_length {ns : List NV} {i : Nat} (k : Nat) : (woK ns i k).length ≤ k := by
  induction k with
  | zero => simp [woK]
  | succ k ih =>
    simp only [woK]
    split
    · omega
    · simp only [List.length_append, List.length_cons, List.length_nil]; omega
set_option maxHeartbeats 1600000 in
theorem without_any (base R : Nat) (E : Nat → Nat) (ns : List NV) (i : Nat) (w : World) (hl : ns.length ≤ 30) (hi : i < ns.length) (hr : Reg w base R E ns) :
    Calls Try.prog 74 #[.pointer (some ⟨R, 0, none⟩), .int .i64 i] w (NewReg w (wo ns i)) := by
  have RR := Lib.hid hr
  have R1 := Lib.hid (reg_new w w.heap.size (Nat.le_refl _))
  have B1 := Lib.hid (below_new w (.cells #[.pointer none, .pointer none, .int .i64 0] 80))
  have HAL := Lib.hid (woK_all hi)
  obtain ⟨c0, _⟩ := (hr.alloc (.cells #[.pointer none, .pointer none, .int .i64 0] 80)).cells
  clear hr
  go_enter Try.func74, Try.ntmps74
  go_wp2_with fail
  generalize w.alloc (.cells #[.pointer none, .pointer none, .int .i64 0] 80) = W1 at *
  go_wp2_with fail
  go_loopg [6, 7] ns.length (fun q ix e wr => ∃ (k : Nat) (E' : Nat → Nat), k ≤ ns.length ∧ q = ns.length - k ∧ ix = .int .i64 k ∧ e = .pointer (nxA E ns.length k) ∧ Reg wr w.heap.size w.heap.size E' (woK ns i k) ∧ Below w.heap.size w wr)
  case atStart => exact ⟨0, _, Nat.zero_le _, by omega, rfl, rfl, R1.out, B1.out⟩
  case round =>
    clear R1 B1 c0
    obtain ⟨k, E', hk, hgk, rfl, rfl, hreg, hbel⟩ := hrel
    have HGK := Lib.hid hgk
    have HG := Lib.hid hreg
    have HB := Lib.hid hbel
    clear hgk hreg hbel
    by_cases hlt : k < ns.length
    · have he := nxA_t (E := E) hlt
      obtain ⟨d0, d1, d2, _, _, _⟩ := (RR.out.below HB.out).entry k hlt
      have hwk := woK_length (ns := ns) (i := i) k
      have hws : woK ns i (k + 1) = if k = i then woK ns i k else woK ns i k ++ [ns.getD k Z2] := rfl
      obtain ⟨⟨m, s⟩, hx⟩ : ∃ x, ns.getD k Z2 = x := ⟨_, rfl⟩
      rw [hx] at d0 d1 hws
      simp only at d0 d1
      rw [he]
      have HLT := Lib.hid hlt
      by_cases hki : k = i
      · rw [if_pos hki] at hws
        have R2 : Hid (Reg wr w.heap.size w.heap.size E' (woK ns i (k + 1))) := Lib.hid (by rw [hws]; exact HG.out)
        have t1 := bne_f (show (k : Int) = i by omega)
        have t1n : (k != i) = false := by simp [hki]
        clear hx he hws hlt hki
        go_wp2_with fail
        go_roundg (ns.length - (k + 1))
        case measure => have := HLT.out; have := HGK.out; omega
        case rel => exact ⟨k + 1, E', by have := HLT.out; omega, rfl, by go_num, rfl, R2.out, HB.out⟩
      · rw [if_neg hki] at hws
        have t1 := bne_t (show (k : Int) ≠ i by omega)
        have t1n : (k != i) = true := by simp [hki]
        have HP := Lib.hid (put_any w.heap.size w.heap.size E' (woK ns i k) m s wr (by omega) HG.out)
        have HWS := Lib.hid hws
        clear hx he hws hlt hki hwk
        go_wp2_with fail
        refine HP.out.mono ?_
        rintro e w2 ⟨rfl, hex, hb2⟩
        obtain ⟨E2, hr2⟩ := hex
        have R2 : Hid (Reg w2 w.heap.size w.heap.size E2 (woK ns i (k + 1))) := Lib.hid (by rw [HWS.out]; exact hr2)
        have B2 := Lib.hid (HB.out.trans hb2)
        obtain ⟨_, _, e2, _, _, _⟩ := (RR.out.below B2.out).entry k HLT.out
        clear hr2 hb2 d0 d1 d2
        go_wp2_with fail
        go_roundg (ns.length - (k + 1))
        case measure => have := HLT.out; have := HGK.out; omega
        case rel => exact ⟨k + 1, E2, by have := HLT.out; omega, rfl, by go_num, rfl, R2.out, B2.out⟩
    · have he := nxA_f (E := E) hlt
      rw [he]
      obtain rfl : k = ns.length := by omega
      have R2 : Hid (Reg wr w.heap.size w.heap.size E' (wo ns i)) := Lib.hid (by rw [← HAL.out]; exact HG.out)
      clear he hlt
      go_wp2_with fail
      go_ret
      exact ⟨w.heap.size, E', rfl, R2.out, HB.out⟩

theorem ba_inj {a b : ByteArray} (h : a.data.toList = b.data.toList) : a = b := by
  cases a with | mk a => cases b with | mk b =>
  simp at h
  rw [h]
theorem Reg.drewN {w : World} {base R : Nat} {E : Nat → Nat} {ns : List NV} (h : Reg w base R E ns) (n : Nat) : Reg (w.drewN n) base R E ns := h.keep fun _ _ _ => rfl
set_option maxHeartbeats 1600000 in
theorem fits_any (base R base' R' : Nat) (E E' : Nat → Nat) (xs ys : List NV) (o sl : Int) (w : World) (hv : regB xs = true) (hv' : regB ys = true) (ho : -30 ≤ o ∧ o ≤ 30) (hs : 0 ≤ sl ∧ sl ≤ 5) (hr : Reg w base R E xs) (hr' : Reg w base' R' E' ys) :
    Calls Try.prog 85 #[.pointer (some ⟨R, 0, none⟩), .pointer (some ⟨R', 0, none⟩), .int .i64 o, .int .i64 sl] w fun e w' => e = .returned (.bool (fitB xs ys sl o)) ∧ Below w.heap.size w w' := by
  have RR := Lib.hid hr
  have RR' := Lib.hid hr'
  have HV := Lib.hid hv
  have HV' := Lib.hid hv'
  have HT := Lib.hid (fun W (k : Below w.heap.size w W) => text_any base R E xs W hv (hr.below k))
  have HT' := Lib.hid (fun W (k : Below w.heap.size w W) => text_any base' R' E' ys W hv' (hr'.below k))
  have hl := txt_size hv
  have hl' := txt_size hv'
  have hfit : fitB xs ys sl o = (decide (txt xs = txt ys) && agree xs ys o sl) := rfl
  clear hr hr' hv hv'
  by_cases htx : txt xs = txt ys
  · have HLE : Hid (xs.length = ys.length) := Lib.hid (by rw [htx] at hl; omega)
    have hfit2 : fitB xs ys sl o = agree xs ys o sl := by rw [hfit, dec_t htx]; rfl
    have HF := Lib.hid hfit2
    have HTX := Lib.hid htx
    rw [htx] at HT
    obtain ⟨X, hX⟩ : ∃ X, txt ys = X := ⟨_, rfl⟩
    rw [hX] at HT HT'
    clear hl hl' hfit hfit2 htx hX
    go_enter Try.func85, Try.ntmps85
    go_wp2_with fail
    refine (HT.out _ (Below.refl _ _)).mono ?_
    rintro e w1 ⟨rfl, hb1⟩
    have B1 := Lib.hid hb1
    clear hb1
    go_wp2_with fail
    refine (HT'.out _ B1.out).mono ?_
    rintro e w2 ⟨rfl, hb2⟩
    have B2 := Lib.hid (below_to B1.out hb2 B1.out.size)
    have RA := Lib.hid (RR.out.below B2.out)
    have RB := Lib.hid (RR'.out.below B2.out)
    obtain ⟨c0, _⟩ := RA.out.cells
    obtain ⟨d0, _⟩ := RB.out.cells
    rw [← HLE.out] at d0
    clear hb2 B1
    go_wp2_with fail
    go_loopg [9, 10] xs.length (fun q b a wr => ∃ (k n : Nat), k ≤ xs.length ∧ q = xs.length - k ∧ b = .pointer (nxA E' xs.length k) ∧ a = .pointer (nxA E xs.length k) ∧ Hid (allN (agB xs ys o sl) k = true) ∧ wr = w2.drewN n)
    case atStart => exact ⟨0, 0, Nat.zero_le _, by omega, rfl, rfl, Lib.hid rfl, rfl⟩
    case round =>
      clear c0 d0
      obtain ⟨k, n, hk, hgk, rfl, rfl, HA, rfl⟩ := hrel
      have HGK := Lib.hid hgk
      clear hgk
      by_cases hlt : k < xs.length
      · have hlt' : k < ys.length := by have := HLE.out; omega
        have he := nxA_t (E := E) hlt
        have he' := nxA_t (E := E') hlt
        obtain ⟨p0, _, p2, _, _, _⟩ := RA.out.entry k hlt
        obtain ⟨q0, _, q2, _, _, _⟩ := RB.out.entry k hlt'
        rw [← HLE.out] at q2
        have hba := (reg_bd HV.out k hlt).1
        have hbb := (reg_bd HV'.out k hlt').1
        have hag : agB xs ys o sl k = inB (0 - sl) sl ((ys.getD k Z2).1 - (xs.getD k Z2).1 - o) := rfl
        rw [he, he']
        generalize (xs.getD k Z2).1 = a at *
        generalize (ys.getD k Z2).1 = b at *
        have HLT := Lib.hid hlt
        have u1 : IntKind.i64.wrap (b - a) = b - a := IntWalk.i64_in _ (by omega)
        have u2 : IntKind.i64.wrap (b - a - o) = b - a - o := IntWalk.i64_in _ (by omega)
        by_cases h1 : sl < b - a - o
        · have HF2 : Hid (fitB xs ys sl o = false) := Lib.hid (by rw [HF.out]; exact allN_no hlt (by rw [hag, inB_false (.inr h1)]))
          have t1 := dec_t h1
          clear he he' hag hlt hlt' h1
          go_wp2_with fail
          go_quiet (fail)
          go_wp2_with fail
          go_ret
          exact ⟨ret_bool HF2.out.symm, below_drewN B2.out _⟩
        · have t1 := dec_f h1
          by_cases h2 : b - a - o < -sl
          · have HF2 : Hid (fitB xs ys sl o = false) := Lib.hid (by rw [HF.out]; exact allN_no hlt (by rw [hag, inB_false (.inl (by omega))]))
            have t2 := dec_t h2
            clear he he' hag hlt hlt' h1 h2
            go_wp2_with fail
            go_quiet (fail)
            go_wp2_with fail
            go_ret
            exact ⟨ret_bool HF2.out.symm, below_drewN B2.out _⟩
          · have t2 := dec_f h2
            have HA2 : Hid (allN (agB xs ys o sl) (k + 1) = true) := Lib.hid (allN_succ HA.out (by rw [hag]; exact inB_true ⟨by omega, by omega⟩))
            clear he he' hag hlt hlt' h1 h2
            go_wp2_with fail
            go_quiet (fail)
            go_wp2_with fail
            go_roundg (xs.length - (k + 1))
            case measure => have := HLT.out; have := HGK.out; omega
            case rel => exact ⟨k + 1, _, by have := HLT.out; omega, rfl, rfl, rfl, HA2, rfl⟩
      · have he := nxA_f (E := E) hlt
        rw [he]
        obtain rfl : k = xs.length := by omega
        have HF2 : Hid (fitB xs ys sl o = true) := Lib.hid (by rw [HF.out]; exact HA.out)
        clear he hlt
        go_wp2_with fail
        go_ret
        exact ⟨ret_bool HF2.out.symm, below_drewN B2.out _⟩
  · have HF : Hid (fitB xs ys sl o = false) := Lib.hid (by rw [hfit, dec_f htx]; rfl)
    have hne : ((txt xs).toList == (txt ys).toList) = false := by
      rw [Bool.eq_false_iff]
      intro h
      rw [beq_iff_eq, ByteArray.toList_eq, ByteArray.toList_eq] at h
      exact htx (ba_inj h)
    obtain ⟨X, hX⟩ : ∃ X, txt xs = X := ⟨_, rfl⟩
    obtain ⟨Y, hY⟩ : ∃ Y, txt ys = Y := ⟨_, rfl⟩
    rw [hX, hY] at hne
    rw [hX] at HT
    rw [hY] at HT'
    clear hl hl' hfit htx hX hY
    go_enter Try.func85, Try.ntmps85
    go_wp2_with fail
    refine (HT.out _ (Below.refl _ _)).mono ?_
    rintro e w1 ⟨rfl, hb1⟩
    have B1 := Lib.hid hb1
    clear hb1
    go_wp2_with fail
    refine (HT'.out _ B1.out).mono ?_
    rintro e w2 ⟨rfl, hb2⟩
    have B2 := Lib.hid (below_to B1.out hb2 B1.out.size)
    clear hb2
    go_wp2_with fail
    go_ret
    exact ⟨ret_bool HF.out.symm, B2.out⟩
end Go.Proofs.Ytebejpaghajhkaa
