/-
  Registers in memory: put, isEvent, valid, registerOf. No condition but lengths that fit.
-/
import Derived.Test.YtebejpaghajhkaaRg2
import Derived.Shelf.Strings.Search3
import Derived.Deep.DeepCutAuto
import Derived.Deep.LoopGhost
namespace Go.Proofs.Ytebejpaghajhkaa
open Go.RowKit
set_option linter.unusedVariables false
set_option linter.unusedSimpArgs false

/-- The address of the k-th of n entries. -/
def nxA (E : Nat → Nat) (n k : Nat) : Option Addr := if k < n then some ⟨E k, 0, none⟩ else none
theorem nxA_t {E : Nat → Nat} {n k : Nat} (h : k < n) : nxA E n k = some ⟨E k, 0, none⟩ := if_pos h
theorem nxA_f {E : Nat → Nat} {n k : Nat} (h : ¬ k < n) : nxA E n k = none := if_neg h
def lsA (E : Nat → Nat) (n : Nat) : Option Addr := if 0 < n then some ⟨E (n - 1), 0, none⟩ else none
/-- A register in block R, its entries in the blocks E 0, E 1, .. -/
def Reg (w : World) (base R : Nat) (E : Nat → Nat) (ns : List NV) : Prop :=
  Blk w R 80 #[.pointer (nxA E ns.length 0), .pointer (lsA E ns.length), .int .i64 ns.length] ∧
  (∀ k, k < ns.length → Blk w (E k) 82 #[.int .i64 (ns.getD k Z2).1, .string (ns.getD k Z2).2, .pointer (nxA E ns.length (k + 1))]) ∧
  base ≤ R ∧ (∀ k, k < ns.length → R < E k) ∧ ∀ j k, j < k → k < ns.length → E j < E k
theorem Blk.cells3 {W : World} {R : Nat} {T : TypeId} {a b c : Value} (k : Blk W R T #[a, b, c]) : W.cell? ⟨R, 0, none⟩ = some a ∧ W.cell? ⟨R, 1, none⟩ = some b ∧ W.cell? ⟨R, 2, none⟩ = some c ∧ W.frozen? ⟨R, 0, none⟩ = false ∧ W.frozen? ⟨R, 1, none⟩ = false ∧ W.frozen? ⟨R, 2, none⟩ = false := by
  have h0 := k.cell 0
  have h1 := k.cell 1
  have h2 := k.cell 2
  exact ⟨by simpa using h0, by simpa using h1, by simpa using h2, k.frozen 0, k.frozen 1, k.frozen 2⟩
section
variable {w w' : World} {base R : Nat} {E : Nat → Nat} {ns : List NV}
theorem Reg.lt (h : Reg w base R E ns) : R < w.heap.size := h.1.lt
theorem Reg.keep (h : Reg w base R E ns) (hk : ∀ b, R ≤ b → b < w.heap.size → w'.heap[b]? = w.heap[b]?) : Reg w' base R E ns := by
  obtain ⟨h1, h2, h3, h4, h5⟩ := h
  exact ⟨(hk R (Nat.le_refl _) h1.lt).trans h1, fun k hk' => (hk (E k) (Nat.le_of_lt (h4 k hk')) (h2 k hk').lt).trans (h2 k hk'), h3, h4, h5⟩
theorem Reg.below (h : Reg w base R E ns) (k : Below w.heap.size w w') : Reg w' base R E ns := h.keep fun b _ hb => k.block b hb
theorem Reg.alloc (h : Reg w base R E ns) (o : Obj) : Reg (w.alloc o) base R E ns := h.keep fun b _ hb => Below.heap_alloc w o b hb
theorem Reg.belowB {B : Nat} (h : Reg w base R E ns) (k : Below B w w') (hB : ∀ j, j < ns.length → E j < B) (hR : R < B) : Reg w' base R E ns := by
  obtain ⟨h1, h2, h3, h4, h5⟩ := h
  exact ⟨h1.below k hR, fun k' hk' => (h2 k' hk').below k (hB k' hk'), h3, h4, h5⟩
theorem Reg.cells (h : Reg w base R E ns) : w.cell? ⟨R, 0, none⟩ = some (.pointer (nxA E ns.length 0)) ∧ w.cell? ⟨R, 1, none⟩ = some (.pointer (lsA E ns.length)) ∧ w.cell? ⟨R, 2, none⟩ = some (.int .i64 ns.length) ∧ w.frozen? ⟨R, 0, none⟩ = false ∧ w.frozen? ⟨R, 1, none⟩ = false ∧ w.frozen? ⟨R, 2, none⟩ = false := h.1.cells3
theorem Reg.entry (h : Reg w base R E ns) (k : Nat) (hk : k < ns.length) : w.cell? ⟨E k, 0, none⟩ = some (.int .i64 (ns.getD k Z2).1) ∧ w.cell? ⟨E k, 1, none⟩ = some (.string (ns.getD k Z2).2) ∧ w.cell? ⟨E k, 2, none⟩ = some (.pointer (nxA E ns.length (k + 1))) ∧ w.frozen? ⟨E k, 0, none⟩ = false ∧ w.frozen? ⟨E k, 1, none⟩ = false ∧ w.frozen? ⟨E k, 2, none⟩ = false := (h.2.1 k hk).cells3
end
/-- The entries, one more. -/
def upE (E : Nat → Nat) (n g : Nat) : Nat → Nat := fun k => if k = n then g else E k
theorem reg_put0 {W : World} {base R g : Nat} {E : Nat → Nat} {m : Int} {s : ByteArray} (h : Reg W base R E []) (hg : Blk W g 82 #[.int .i64 m, .string s, .pointer none]) (hR : R < g) :
    Reg (((W.setCell ⟨R, 0, none⟩ (.pointer (some ⟨g, 0, none⟩))).setCell ⟨R, 1, none⟩ (.pointer (some ⟨g, 0, none⟩))).setCell ⟨R, 2, none⟩ (.int .i64 1)) base R (upE E 0 g) [(m, s)] := by
  obtain ⟨h1, _, h3, _, _⟩ := h
  refine ⟨?_, fun k hk => ?_, h3, fun k hk => ?_, fun j k hj hk => ?_⟩
  · have := ((h1.set_ 0 (.pointer (some ⟨g, 0, none⟩))).set_ 1 (.pointer (some ⟨g, 0, none⟩))).set_ 2 (.int .i64 1)
    simpa [nxA, lsA, upE] using this
  · obtain rfl : k = 0 := by simp at hk; omega
    have n1 : g ≠ R := by omega
    have := ((hg.far (p := ⟨R, 0, none⟩) n1 (.pointer (some ⟨g, 0, none⟩))).far (p := ⟨R, 1, none⟩) n1 (.pointer (some ⟨g, 0, none⟩))).far (p := ⟨R, 2, none⟩) n1 (.int .i64 1)
    simpa [nxA, upE] using this
  · obtain rfl : k = 0 := by simp at hk; omega
    simpa [upE] using hR
  · simp at hk; omega
theorem reg_put1 {W : World} {base R g : Nat} {E : Nat → Nat} {ns : List NV} {m : Int} {s : ByteArray} (h : Reg W base R E ns) (h0 : 0 < ns.length) (hg : Blk W g 82 #[.int .i64 m, .string s, .pointer none]) (hR : R < g) (hE : ∀ k, k < ns.length → E k < g) :
    Reg (((W.setCell ⟨E (ns.length - 1), 2, none⟩ (.pointer (some ⟨g, 0, none⟩))).setCell ⟨R, 1, none⟩ (.pointer (some ⟨g, 0, none⟩))).setCell ⟨R, 2, none⟩ (.int .i64 ((ns.length : Int) + 1))) base R (upE E ns.length g) (ns ++ [(m, s)]) := by
  obtain ⟨h1, h2, h3, h4, h5⟩ := h
  have hl := h4 (ns.length - 1) (by omega)
  have e : (ns ++ [(m, s)]).length = ns.length + 1 := by simp
  have u : ∀ k, k < ns.length → upE E ns.length g k = E k := fun k hk => by unfold upE; rw [if_neg (by omega)]
  have ul : upE E ns.length g ns.length = g := by unfold upE; rw [if_pos rfl]
  refine ⟨?_, fun k hk => ?_, h3, fun k hk => ?_, fun j k hj hk => ?_⟩
  · have := ((h1.far (p := ⟨E (ns.length - 1), 2, none⟩) (by show R ≠ E (ns.length - 1); omega) (.pointer (some ⟨g, 0, none⟩))).set_ 1 (.pointer (some ⟨g, 0, none⟩))).set_ 2 (.int .i64 ((ns.length : Int) + 1))
    have q0 : nxA (upE E ns.length g) (ns.length + 1) 0 = nxA E ns.length 0 := by rw [nxA_t (by omega), nxA_t h0, u 0 h0]
    have q1 : lsA (upE E ns.length g) (ns.length + 1) = some ⟨g, 0, none⟩ := by unfold lsA; rw [if_pos (by omega), show ns.length + 1 - 1 = ns.length by omega, ul]
    rw [e, q0, q1]
    simpa using this
  · rw [e] at hk ⊢
    by_cases hkn : k = ns.length
    · subst hkn
      rw [ul, getD_snoc_last, nxA_f (by omega)]
      have n1 : g ≠ R := by omega
      have n2 : g ≠ E (ns.length - 1) := by have := hE (ns.length - 1) (by omega); omega
      exact ((hg.far (p := ⟨E (ns.length - 1), 2, none⟩) n2 _).far (p := ⟨R, 1, none⟩) n1 _).far (p := ⟨R, 2, none⟩) n1 _
    · have hk' : k < ns.length := by omega
      rw [u k hk', getD_snoc hk', nxA_t (show k + 1 < ns.length + 1 by omega)]
      have n1 : E k ≠ R := by have := h4 k hk'; omega
      by_cases hl' : k = ns.length - 1
      · subst hl'
        rw [show ns.length - 1 + 1 = ns.length by omega, ul]
        have := (h2 (ns.length - 1) (by omega)).set_ 2 (.pointer (some ⟨g, 0, none⟩))
        have h6 := (this.far (p := ⟨R, 1, none⟩) n1 (.pointer (some ⟨g, 0, none⟩))).far (p := ⟨R, 2, none⟩) n1 (.int .i64 ((ns.length : Int) + 1))
        simpa using h6
      · have n2 : E k ≠ E (ns.length - 1) := by have := h5 k (ns.length - 1) (by omega) (by omega); omega
        rw [u (k + 1) (by omega)]
        have := h2 k hk'
        rw [nxA_t (by omega)] at this
        exact ((this.far (p := ⟨E (ns.length - 1), 2, none⟩) n2 _).far (p := ⟨R, 1, none⟩) n1 _).far (p := ⟨R, 2, none⟩) n1 _
  · rw [e] at hk
    by_cases hkn : k = ns.length
    · subst hkn; rw [ul]; exact hR
    · rw [u k (by omega)]; exact h4 k (by omega)
  · rw [e] at hk
    by_cases hkn : k = ns.length
    · subst hkn; rw [ul, u j hj]; exact hE j hj
    · rw [u k (by omega), u j (by omega)]; exact h5 j k hj (by omega)
/-- What put leaves. -/
def Putted (w : World) (base R : Nat) (ns : List NV) (e : Ending) (w' : World) : Prop := e = .returned (.tuple #[]) ∧ (∃ E, Reg w' base R E ns) ∧ Below base w w'
set_option maxHeartbeats 800000 in
theorem put_any (base R : Nat) (E : Nat → Nat) (ns : List NV) (m : Int) (s : ByteArray) (w : World) (hn : ns.length ≤ 1000) (hr : Reg w base R E ns) :
    Calls Try.prog 71 #[.pointer (some ⟨R, 0, none⟩), .agg #[.int .i64 m, .string s]] w (Putted w base R (ns ++ [(m, s)])) := by
  have hB2 : Below w.heap.size w ((w.alloc (.cells #[.int .i64 m, .string s] 48)).alloc (.cells #[.int .i64 m, .string s, .pointer none] 82)) := below_new' (below_new w _) _
  have B2 := Lib.hid hB2
  have R2 := Lib.hid (hr.below hB2)
  have hG : Blk ((w.alloc (.cells #[.int .i64 m, .string s] 48)).alloc (.cells #[.int .i64 m, .string s, .pointer none] 82)) (w.heap.size + 1) 82 #[.int .i64 m, .string s, .pointer none] := by
    have := Blk.new (w.alloc (.cells #[.int .i64 m, .string s] 48)) 82 #[.int .i64 m, .string s, .pointer none]
    simpa using this
  have G2 := Lib.hid hG
  have RL := Lib.hid hr.lt
  have EL : Hid (∀ k, k < ns.length → E k < w.heap.size + 1) := Lib.hid fun k hk => by have := (hr.2.1 k hk).lt; omega
  have BR := Lib.hid hr.2.2.1
  have LE := Lib.hid hr.2.2.2.1
  clear hB2 hG hr
  by_cases h0 : 0 < ns.length
  · have H0 := Lib.hid h0
    have ll := lsA (E := E) (n := ns.length)
    obtain ⟨c0, c1, c2, f0, f1, f2⟩ := R2.out.cells
    obtain ⟨d0, d1, d2, g0, g1, g2⟩ := R2.out.entry (ns.length - 1) (by omega)
    have el : lsA E ns.length = some ⟨E (ns.length - 1), 0, none⟩ := by unfold lsA; rw [if_pos h0]
    rw [el] at c1
    have nE : E (ns.length - 1) ≠ R := by have := LE.out (ns.length - 1) (by omega); omega
    have nE' : R ≠ E (ns.length - 1) := fun h => nE h.symm
    have HGT : Hid (R < w.heap.size + 1) := Lib.hid (by have := RL.out; omega)
    clear h0 el ll d0 d1 g0 g1 c0 f0
    go_enter Try.func71, Try.ntmps71
    go_upto_region 2 with fail
    generalize (w.alloc (.cells #[.int .i64 m, .string s] 48)).alloc (.cells #[.int .i64 m, .string s, .pointer none] 82) = W2 at *
    go_wp2_with fail
    go_end0
    exact ⟨rfl, ⟨_, reg_put1 R2.out H0.out G2.out HGT.out EL.out⟩, (((B2.out.mono (by have := BR.out; have := RL.out; omega)).setCell (p := ⟨E (ns.length - 1), 2, none⟩) (by have := LE.out (ns.length - 1) (by have := H0.out; omega); have := BR.out; show base ≤ E (ns.length - 1); omega) _).setCell (p := ⟨R, 1, none⟩) BR.out _).setCell (p := ⟨R, 2, none⟩) BR.out _⟩
  · obtain rfl : ns = [] := List.eq_nil_of_length_eq_zero (by omega)
    obtain ⟨c0, c1, c2, f0, f1, f2⟩ := R2.out.cells
    simp only [List.length_nil] at c0 c1 c2
    rw [nxA_f (by omega)] at c0
    have el : lsA E 0 = none := rfl
    rw [el] at c1
    have HGT : Hid (R < w.heap.size + 1) := Lib.hid (by have := RL.out; omega)
    clear h0 el
    go_enter Try.func71, Try.ntmps71
    go_upto_region 2 with fail
    generalize (w.alloc (.cells #[.int .i64 m, .string s] 48)).alloc (.cells #[.int .i64 m, .string s, .pointer none] 82) = W2 at *
    go_wp2_with fail
    go_end0
    exact ⟨rfl, ⟨_, reg_put0 R2.out G2.out HGT.out⟩, (((B2.out.mono (by have := BR.out; have := RL.out; omega)).setCell (p := ⟨R, 0, none⟩) BR.out _).setCell (p := ⟨R, 1, none⟩) BR.out _).setCell (p := ⟨R, 2, none⟩) BR.out _⟩

def renContains : Go.Shelf.Ren := ⟨fun | 143 => 100 | 144 => 95 | 217 => 104 | 219 => 102 | 224 => 106 | 225 => 105 | 266 => 108 | 267 => 107 | 314 => 109 | n => n, fun | 3 => 3 | 4 => 4 | 5 => 5 | 9 => 9 | 46 => 141 | 51 => 142 | 146 => 143 | n => n, fun | 1 => 0 | n => n⟩
theorem laysContains : Go.Proofs.Lays.n144 Try.prog renContains := {
  mixed := by kernel_rfl
  f143 := Try.func100.trans (congrArg some (by kernel_rfl))
  f144 := Try.func95.trans (congrArg some (by kernel_rfl))
  f217 := Try.func104.trans (congrArg some (by kernel_rfl))
  f219 := Try.func102.trans (congrArg some (by kernel_rfl))
  f224 := Try.func106.trans (congrArg some (by kernel_rfl))
  f225 := Try.func105.trans (congrArg some (by kernel_rfl))
  f266 := Try.func108.trans (congrArg some (by kernel_rfl))
  f267 := Try.func107.trans (congrArg some (by kernel_rfl))
  f314 := Try.func109.trans (congrArg some (by kernel_rfl))
  t3 := Try.underlying3
  a3 := Try.isAgg3
  z3 := Try.sizeOf3
  v3 := Try.zeroValue3
  t4 := Try.underlying4
  a4 := Try.isAgg4
  z4 := Try.sizeOf4
  v4 := Try.zeroValue4
  t5 := Try.underlying5
  a5 := Try.isAgg5
  z5 := Try.sizeOf5
  v5 := Try.zeroValue5
  t9 := Try.underlying9
  a9 := Try.isAgg9
  z9 := Try.sizeOf9
  v9 := Try.zeroValue9
  t46 := Try.underlying141
  a46 := Try.isAgg141
  z46 := Try.sizeOf141
  v46 := Try.zeroValue141
  t51 := Try.underlying142
  a51 := Try.isAgg142
  z51 := Try.sizeOf142
  v51 := Try.zeroValue142
  t146 := Try.underlying143
  a146 := Try.isAgg143
  z146 := Try.sizeOf143
  v146 := Try.zeroValue143
  g1 := by kernel_rfl }
theorem cont_all : ∀ n, n < 256 → decide (0 ≤ Lib.indexByte [97, 99, 101, 102, 108, 111, 114] (UInt8.ofNat n)) = evs.contains (UInt8.ofNat n) := by decide +kernel
theorem contains_any (c : UInt8) (w : World) : Calls Try.prog 95 #[.string ⟨#[97, 99, 101, 102, 108, 111, 114]⟩, .string ⟨#[c]⟩] w fun e w' => e = .returned (.bool (evB ⟨#[c]⟩)) ∧ w = w' := by
  have h := cont_all c.toNat c.toNat_lt
  rw [UInt8.ofNat_toNat] at h
  refine (Any.strings_Contains_one laysContains ⟨#[97, 99, 101, 102, 108, 111, 114]⟩ c w).mono fun e w' ⟨he, hw⟩ => ⟨?_, hw.symm⟩
  rw [he, evB_one, ← h]
set_option maxHeartbeats 400000 in
theorem isEvent_any (s : ByteArray) (w : World) (hs : s.size ≤ 9223372036854775807) : Calls Try.prog 83 #[.string s] w fun e w' => e = .returned (.bool (evB s)) ∧ w = w' := by
  by_cases h1 : s.size = 1
  · obtain ⟨c, hc⟩ := nsize_one h1
    have hcn := fun w => contains_any c w
    rw [← hc] at hcn
    have HCN := Lib.hid hcn
    have t0 := beq_t (show (s.size : Int) = 1 by omega)
    clear hc hcn h1
    go_enter Try.func83, Try.ntmps83
    go_wp2_with fail
    refine (HCN.out _).mono ?_
    rintro e w' ⟨rfl, rfl⟩
    go_wp2_with fail
    go_ret
    exact ⟨rfl, rfl⟩
  · rw [evB_size h1]
    have t0 := beq_f (show (s.size : Int) ≠ 1 by omega)
    clear h1
    go_enter Try.func83, Try.ntmps83
    go_wp2_with fail
    go_ret
    exact ⟨rfl, rfl⟩

set_option maxHeartbeats 1600000 in
theorem valid_any (base R : Nat) (E : Nat → Nat) (ns : List NV) (w : World) (hn : ns.length ≤ 1000) (hsz : ∀ k, k < ns.length → (ns.getD k Z2).2.size ≤ 9223372036854775807) (hr : Reg w base R E ns) :
    Calls Try.prog 56 #[.pointer (some ⟨R, 0, none⟩)] w fun e w' => e = .returned (.bool (regB ns)) ∧ w = w' := by
  obtain ⟨c0, c1, c2, f0, f1, f2⟩ := hr.cells
  by_cases hl : ns.length ≤ 30
  · have t0 := dec_f (show ¬ (30 : Int) < (ns.length : Int) by omega)
    have RR := Lib.hid hr
    have HSZ := Lib.hid hsz
    have L0 := Lib.hid (lastM_0 ns)
    have A0 : Hid (allN (okN ns) 0 = true) := Lib.hid rfl
    have HL := Lib.hid hl
    clear hr hsz c1 f0 f1 f2
    go_enter Try.func56, Try.ntmps56
    go_wp2_with fail
    go_loopg [3, 4] ns.length (fun q l e wr => ∃ k : Nat, k ≤ ns.length ∧ q = ns.length - k ∧ l = .int .i64 (lastM ns k) ∧ e = .pointer (nxA E ns.length k) ∧ Hid (allN (okN ns) k = true) ∧ w = wr)
    case atStart => exact ⟨0, Nat.zero_le _, by omega, by rw [L0.out], rfl, A0, rfl⟩
    case round =>
      clear L0 A0
      obtain ⟨k, hk, hgk, rfl, rfl, HA, rfl⟩ := hrel
      have HGK := Lib.hid hgk
      clear hgk
      by_cases hlt : k < ns.length
      · have he := nxA_t (E := E) hlt
        obtain ⟨d0, d1, d2, _, _, _⟩ := RR.out.entry k hlt
        have hz := HSZ.out k hlt
        have hsc := lastM_succ ns k
        have hok : okN ns k = (inB (lastM ns k) 2000 (ns.getD k Z2).1 && evB (ns.getD k Z2).2) := rfl
        obtain ⟨⟨m, s⟩, hx⟩ : ∃ x, ns.getD k Z2 = x := ⟨_, rfl⟩
        rw [hx] at d0 d1 hz hsc hok
        simp only at d0 d1 hz hsc hok
        have HEV := Lib.hid (fun w => isEvent_any s w hz)
        rw [he]
        obtain ⟨L, hL⟩ : ∃ L, lastM ns k = L := ⟨_, rfl⟩
        rw [hL] at hok ⊢
        have HSC := Lib.hid hsc
        have HLT := Lib.hid hlt
        clear hx hL hsc he hz
        by_cases h1 : m < L
        · have HF : Hid (regB ns = false) := Lib.hid (regB_no hlt (by rw [hok, inB_false (.inl h1)]; rfl))
          clear hok hlt
          go_wp2_with fail
          go_ret
          exact ⟨ret_bool HF.out.symm, rfl⟩
        · by_cases h2 : 2000 < m
          · have HF : Hid (regB ns = false) := Lib.hid (regB_no hlt (by rw [hok, inB_false (.inr h2)]; rfl))
            clear hok hlt
            go_wp2_with fail
            go_ret
            exact ⟨ret_bool HF.out.symm, rfl⟩
          · rw [inB_true ⟨by omega, by omega⟩, Bool.true_and] at hok
            cases hev : evB s with
            | false =>
              have HF : Hid (regB ns = false) := Lib.hid (regB_no hlt (by rw [hok, hev]))
              rw [hev] at HEV
              clear hok hev hlt
              go_wp2_with (go_at_call 83; refine (HEV.out _).mono ?_; rintro e w' ⟨rfl, rfl⟩)
              go_ret
              exact ⟨ret_bool HF.out.symm, rfl⟩
            | true =>
              rw [hev] at HEV hok
              have HA2 : Hid (allN (okN ns) (k + 1) = true) := Lib.hid (allN_succ HA.out hok)
              clear hok hev hlt
              go_wp2_with (go_at_call 83; refine (HEV.out _).mono ?_; rintro e w' ⟨rfl, rfl⟩)
              go_roundg (ns.length - (k + 1))
              case measure => have := HLT.out; have := HGK.out; omega
              case rel => exact ⟨k + 1, by have := HLT.out; omega, rfl, by rw [HSC.out], rfl, HA2, rfl⟩
      · have he := nxA_f (E := E) hlt
        rw [he]
        obtain rfl : k = ns.length := by omega
        have HF : Hid (regB ns = true) := Lib.hid (regB_t HL.out HA.out)
        clear he
        go_wp2_with fail
        go_ret
        exact ⟨ret_bool HF.out.symm, rfl⟩
  · rw [regB_long hl]
    have t0 := dec_t (show (30 : Int) < (ns.length : Int) by omega)
    clear hsz hr c1 f0 f1 f2
    go_enter Try.func56, Try.ntmps56
    go_wp2_with fail
    go_ret
    exact ⟨rfl, rfl⟩
end Go.Proofs.Ytebejpaghajhkaa
