/-
  The drawing reader of the reference: l6Open, pick, of. Weak contracts: what a number drawn is within, and what memory is touched. No condition.
-/
import Derived.Test.YtebejpaghajhkaaStrs
import Derived.Test.YtebejpaghajhkaaLn1
import Derived.IntWalk
namespace Go.Proofs.Ytebejpaghajhkaa
open Go.RowKit
set_option linter.unusedVariables false

/-- A row of m bytes below block 'base', nil or not. -/
def ByteRow (w : World) (base : Nat) (A : Option Addr) (m : Nat) : Prop := 0 < m → ∃ b off, A = some ⟨b, off, none⟩ ∧ b < base ∧ ∀ k, k < m → ∃ x : Nat, x ≤ 255 ∧ w.cell? ⟨b, off + k, none⟩ = some (.int .u8 x)
def ArgBytes (w : World) (A : Option Addr) (cap : Nat) (ys : List Int) : Prop := ByteRow w w.heap.size A ys.length ∧ ys.length ≤ cap ∧ cap ≤ 9223372036854775807
theorem argBytes_nil (w : World) : ArgBytes w none 0 [] := ⟨fun h => absurd h (by simp), by simp, by omega⟩
theorem argBytes_row {w : World} {x : Addr} {len cap : Nat} {zs : List Int} (hl : len ≤ cap) (hm : cap ≤ maxLen) (hz : zs.length = cap) (hcell : ∀ i, i < zs.length → w.cell? (x.add i) = some (.int .u8 (zs.getD i 0))) (hwz : ∀ n ∈ zs, (Lit.int .u8 n).wf = true) :
    ∃ ys : List Int, ys.length = len ∧ ArgBytes w (some x) cap ys := by
  unfold maxLen at hm
  refine ⟨zs.take len, by simp; omega, fun hp => ?_, by simp; omega, hm⟩
  have hlen : (zs.take len).length = len := by simp; omega
  obtain ⟨b, off, spot⟩ := x
  have hc := hcell 0 (by omega)
  have hspot : spot = none := by simpa [Addr.add] using World.cell?_spot hc
  subst hspot
  refine ⟨b, off, rfl, ?_, fun k hk => ?_⟩
  · rcases Nat.lt_or_ge b w.heap.size with h | h
    · exact h
    · simp [Addr.add, World.cell?, Array.getElem?_eq_none h] at hc
  · have h1 := hcell k (by omega)
    rw [Addr.add_lit] at h1
    have h2 := hwz (zs.getD k 0) (by simp [List.getD, show k < zs.length by omega])
    have hg : (zs.take len).getD k 0 = zs.getD k 0 := by simp [List.getD, show k < len by omega]
    generalize zs.getD k 0 = z at *
    have h3 : 0 ≤ z ∧ z ≤ 255 := by simpa [Lit.wf, IntKind.min, IntKind.max, IntKind.signed, IntKind.bits] using h2
    obtain ⟨x, rfl⟩ := Int.eq_ofNat_of_zero_le h3.1
    exact ⟨x, by omega, h1⟩
theorem ByteRow.keep {w w' : World} {base : Nat} {A : Option Addr} {m : Nat} (h : ByteRow w base A m) (hk : ∀ b, b < base → w'.heap[b]? = w.heap[b]?) : ByteRow w' base A m := fun hm => by
  obtain ⟨b, off, hA, hb, hc⟩ := h hm
  refine ⟨b, off, hA, hb, fun k hk' => ?_⟩
  obtain ⟨x, hx, hcx⟩ := hc k hk'
  refine ⟨x, hx, ?_⟩
  rw [← hcx]
  simp only [World.cell?, hk b hb]

/-- The reader in block R, from 'base' on, its place is p; its bytes lie below 'base'. -/
def Rdr (w : World) (base R p : Nat) : Prop := ∃ A m c, m ≤ 2000 ∧ base ≤ R ∧ Blk w R 109 #[.slice A m c, .int .i64 p] ∧ ByteRow w base A m
theorem Rdr.lt {w : World} {base R p : Nat} (h : Rdr w base R p) : R < w.heap.size := by obtain ⟨A, m, c, _, _, hk, _⟩ := h; exact hk.lt
theorem Rdr.le {w : World} {base R p : Nat} (h : Rdr w base R p) : base ≤ R := by obtain ⟨A, m, c, _, hb, _⟩ := h; exact hb
theorem Rdr.keep {w w' : World} {base R p : Nat} (h : Rdr w base R p) (hk : ∀ b, b ≤ R → w'.heap[b]? = w.heap[b]?) : Rdr w' base R p := by
  obtain ⟨A, m, c, hm, hb, hbk, hr⟩ := h
  exact ⟨A, m, c, hm, hb, (hk R (Nat.le_refl _)).trans hbk, hr.keep fun b hb' => hk b (by omega)⟩
theorem Rdr.below {w w' : World} {base R p B : Nat} (h : Rdr w base R p) (hb : Below B w w') (hB : R < B) : Rdr w' base R p := h.keep fun b hb' => hb.block b (by omega)

theorem Rdr.alloc {w : World} {base R p : Nat} (h : Rdr w base R p) (o : Obj) : Rdr (w.alloc o) base R p := h.keep fun b hb => Below.heap_alloc w o b (Nat.lt_of_le_of_lt hb h.lt)
theorem grownBy_alloc {w w' : World} {row : Option Nat} (h : w.grownBy w' row) (o : Obj) : w.grownBy (w'.alloc o) row :=
  grownBy_trans h ⟨rfl, rfl, rfl, by simp, fun i hi _ => Below.heap_alloc w' o i hi⟩
/-- What pick leaves. -/
def Picked (w : World) (base R p : Nat) (n : Int) (e : Ending) (w' : World) : Prop :=
  ∃ x : Nat, e = .returned (.int .i64 x) ∧ (0 < n → (x : Int) < n) ∧ Rdr w' base R (p + 1) ∧ w.grownBy w' (some R)
theorem grownBy_set (w : World) (R i : Nat) (v : Value) : w.grownBy (w.setCell ⟨R, i, none⟩ v) (some R) := ⟨rfl, rfl, rfl, by simp, fun i _ hne => Below.heap_setCell _ _ _ _ (fun e => hne (by rw [e]))⟩

theorem i64_xor_nat (a b : Nat) (ha : a < 2 ^ 62) (hb : b < 2 ^ 62) : bits .xor .i64 (a : Int) (b : Int) = ((a ^^^ b : Nat) : Int) := by
  have hx : a ^^^ b < 2 ^ 62 := Nat.xor_lt_two_pow ha hb
  have h1 : (BitVec.ofInt 64 (a : Int)).toNat = a := by rw [BitVec.ofInt_natCast, BitVec.toNat_ofNat]; exact Nat.mod_eq_of_lt (by omega)
  have h2 : (BitVec.ofInt 64 (b : Int)).toNat = b := by rw [BitVec.ofInt_natCast, BitVec.toNat_ofNat]; exact Nat.mod_eq_of_lt (by omega)
  show IntKind.i64.wrap ((BitVec.ofInt 64 (a : Int) ^^^ BitVec.ofInt 64 (b : Int)).toNat : Int) = _
  rw [BitVec.toNat_xor, h1, h2, IntKind.wrap_i64]
  omega
set_option maxHeartbeats 1600000 in
theorem pick_any (base R p : Nat) (n : Int) (w : World) (hp : p ≤ 1000000) (hn : -9223372036854775808 ≤ n ∧ n ≤ 9223372036854775807) (hr : Rdr w base R p) :
    Calls Try.prog 51 #[.pointer (some ⟨R, 0, none⟩), .int .i64 n] w (Picked w base R p n) := by
  obtain ⟨A, m, c, hm, hb, hbk, hrow⟩ := hr
  have c0 := hbk.cell 0
  have c1 := hbk.cell 1
  have f1 := hbk.frozen 1
  have hk2 := hbk.set_ 1 (.int .i64 ((p : Int) + 1))
  have hw2 := grownBy_set w R 1 (.int .i64 ((p : Int) + 1))
  have d0 := hk2.cell 0
  have d1 := hk2.cell 1
  have hrow2 : ByteRow (w.setCell ⟨R, 1, none⟩ (.int .i64 ((p : Int) + 1))) base A m := hrow.keep fun b hb' => Below.heap_setCell _ _ _ _ (by simp; omega)
  have hrd : Rdr (w.setCell ⟨R, 1, none⟩ (.int .i64 ((p : Int) + 1))) base R (p + 1) := ⟨A, m, c, hm, hb, by simpa using hk2, hrow2⟩
  have HRD := Lib.hid hrd
  have HGR := Lib.hid hw2
  have HROW := Lib.hid hrow2
  clear hk2 hw2 hrow2 hrd hrow hbk
  by_cases hn1 : n < 1
  · have t0 := dec_t hn1
    go_enter Try.func51, Try.ntmps51
    go_wp2_with fail
    go_ret
    exact ⟨0, rfl, by omega, HRD.out, HGR.out⟩
  · have t0 := dec_f hn1
    by_cases hm0 : m = 0
    · subst hm0
      go_enter Try.func51, Try.ntmps51
      go_wp2_with fail
      go_ret
      exact ⟨0, rfl, by omega, HRD.out, HGR.out⟩
    · obtain ⟨b, off, rfl, hbb, hcells⟩ := HROW.out (by omega)
      have HCE := Lib.hid hcells
      clear hcells
      have t1 := beq_f (show (m : Int) ≠ 0 by omega)
      have t1' : (m == 0) = false := by simpa using hm0
      by_cases hpm : p < m
      · obtain ⟨x, hx, hcx⟩ := HCE.out p hpm
        have t2 := dec_t hpm
        go_enter Try.func51, Try.ntmps51
        go_wp2_with fail
        go_ret
        have hnn : (0 : Int) ≤ (x : Int) % n := Int.emod_nonneg _ (by omega)
        have hlt := Int.emod_lt_of_pos (x : Int) (show 0 < n by omega)
        refine ⟨((x : Int) % n).toNat, ret_int (by omega), fun _ => by omega, HRD.out, HGR.out⟩
      · have t2 := dec_f hpm
        obtain ⟨x, hx, hcx⟩ := HCE.out (p % m) (Nat.mod_lt _ (by omega))
        obtain ⟨y, hy, hcy⟩ := HCE.out ((p * 7 + 3) % m) (Nat.mod_lt _ (by omega))
        have g1 : p % m < m := Nat.mod_lt _ (by omega)
        have g2 : (p * 7 + 3) % m < m := Nat.mod_lt _ (by omega)
        have g3 : p / m ≤ p := Nat.div_le_self _ _
        have r1 : Int.tmod (p : Int) (m : Int) = ((p % m : Nat) : Int) := by rw [Int.tmod_eq_emod_of_nonneg (by omega)]; rfl
        have r2 : Int.tmod ((p : Int) * 7 + 3) (m : Int) = (((p * 7 + 3) % m : Nat) : Int) := by rw [Int.tmod_eq_emod_of_nonneg (by omega)]; rfl
        have r3 : Int.tdiv (p : Int) (m : Int) = ((p / m : Nat) : Int) := by rw [Int.tdiv_eq_ediv_of_nonneg (by omega)]; rfl
        have s1 : ((p : Int) % (m : Int)) = ((p % m : Nat) : Int) := rfl
        have s2 : (((p : Int) * 7 + 3) % (m : Int)) = (((p * 7 + 3) % m : Nat) : Int) := rfl
        have s3 : ((p : Int) / (m : Int)) = ((p / m : Nat) : Int) := rfl
        generalize p % m = i1 at *
        generalize (p * 7 + 3) % m = i2 at *
        generalize p / m = i3 at *
        have w1 : IntKind.i64.wrap ((p : Int) * 7) = (p : Int) * 7 := IntWalk.i64_in _ (by omega)
        have w2 : IntKind.i64.wrap ((p : Int) * 7 + 3) = (p : Int) * 7 + 3 := IntWalk.i64_in _ (by omega)
        have w3 : IntKind.i64.wrap ((x : Int) * 131) = (x : Int) * 131 := IntWalk.i64_in _ (by omega)
        have w4 : IntKind.i64.wrap ((y : Int) * 1117) = (y : Int) * 1117 := IntWalk.i64_in _ (by omega)
        have w5 : IntKind.i64.wrap ((x : Int) * 131 + (y : Int) * 1117) = (x : Int) * 131 + (y : Int) * 1117 := IntWalk.i64_in _ (by omega)
        have w6 : IntKind.i64.wrap ((p : Int) * 29) = (p : Int) * 29 := IntWalk.i64_in _ (by omega)
        have w7 : IntKind.i64.wrap ((x : Int) * 131 + (y : Int) * 1117 + (p : Int) * 29) = (x : Int) * 131 + (y : Int) * 1117 + (p : Int) * 29 := IntWalk.i64_in _ (by omega)
        have w8 : IntKind.i64.wrap ((i3 : Int) * 53) = (i3 : Int) * 53 := IntWalk.i64_in _ (by omega)
        have w9 : IntKind.i64.wrap ((x : Int) * 131 + (y : Int) * 1117 + (p : Int) * 29 + (i3 : Int) * 53) = (x : Int) * 131 + (y : Int) * 1117 + (p : Int) * 29 + (i3 : Int) * 53 := IntWalk.i64_in _ (by omega)
        have b1 : (i1 : Int) < (m : Int) := by omega
        have b2 : (i2 : Int) < (m : Int) := by omega
        have hm00 : ¬ (m : Int) = 0 := by omega
        go_enter Try.func51, Try.ntmps51
        go_wp2_with fail
        go_quiet (fail)
        clear w1 w2 w3 w4 w5 w6 w7 w8 w9 r1 r2 r3 s1 s2 s3
        generalize hv : (x : Int) * 131 + (y : Int) * 1117 + (p : Int) * 29 + (i3 : Int) * 53 = v
        have hv1 : 0 ≤ v ∧ v ≤ 1000000000000 := by omega
        clear hv
        obtain ⟨V, rfl⟩ := Int.eq_ofNat_of_zero_le hv1.1
        have hVle : V ≤ 1000000000000 := by omega
        have hxo := i64_xor_nat V (V / 64) (by omega) (by omega)
        have hzl : V ^^^ V / 64 < 2 ^ 62 := Nat.xor_lt_two_pow (by omega) (by omega)
        obtain ⟨Z, hZ⟩ : ∃ Z, V ^^^ V / 64 = Z := ⟨_, rfl⟩
        rw [hZ] at hxo hzl
        have hzl2 : Z ≤ 4611686018427387904 := by omega
        clear hZ hzl
        have e64 : ((V / 64 : Nat) : Int) = (V : Int) / 64 := by omega
        rw [e64] at hxo
        clear e64 hv1
        go_wp2_with fail
        go_ret
        have hnn : (0 : Int) ≤ (Z : Int) % n := Int.emod_nonneg _ (by omega)
        have hlt := Int.emod_lt_of_pos (Z : Int) (show 0 < n by omega)
        exact ⟨((Z : Int) % n).toNat, ret_int (by omega), fun _ => by omega, HRD.out.keep fun _ _ => rfl, grownBy_trans HGR.out ⟨rfl, rfl, rfl, Nat.le_refl _, fun _ _ _ => rfl⟩⟩

set_option maxHeartbeats 400000 in
theorem open_any (base : Nat) (A : Option Addr) (m c : Nat) (w : World) (hb : base ≤ w.heap.size) (hmc : m ≤ c) (hc : c ≤ 9223372036854775807) (hr : ByteRow w base A m) :
    Calls Try.prog 49 #[.slice A m c] w fun e w' => e = .returned (.pointer (some ⟨w.heap.size, 0, none⟩)) ∧ Rdr w' base w.heap.size 0 ∧ Below w.heap.size w w' := by
  have HR := Lib.hid hr
  clear hr
  by_cases hm : 2000 < m
  · have t0 := dec_t (show (2000 : Int) < (m : Int) by omega)
    have t0' := dec_t hm
    obtain ⟨b, off, rfl, hbb, hcc⟩ := HR.out (by omega)
    have HK := Lib.hid (Blk.new w 109 #[.slice (some ⟨b, off, none⟩) 2000 c, .int .i64 0])
    have HB := Lib.hid (below_new w (.cells #[.slice (some ⟨b, off, none⟩) 2000 c, .int .i64 0] 109))
    have HW : Hid (ByteRow (w.alloc (.cells #[.slice (some ⟨b, off, none⟩) 2000 c, .int .i64 0] 109)) base (some ⟨b, off, none⟩) 2000) := ByteRow.keep (fun _ => ⟨b, off, rfl, hbb, fun k hk => hcc k (by omega)⟩) (fun b' hb' => Below.heap_alloc w _ b' (by omega))
    clear hcc
    have i1 : (2000 : Int) ≤ (c : Int) := by omega
    go_enter Try.func49, Try.ntmps49
    go_wp2_with fail
    go_ret
    exact ⟨rfl, ⟨_, _, _, Nat.le_refl _, hb, HK.out, HW.out⟩, HB.out⟩
  · have t0 := dec_f (show ¬ (2000 : Int) < (m : Int) by omega)
    have t0' := dec_f hm
    have HK := Lib.hid (Blk.new w 109 #[.slice A m c, .int .i64 0])
    have HB := Lib.hid (below_new w (.cells #[.slice A m c, .int .i64 0] 109))
    have HW : Hid (ByteRow (w.alloc (.cells #[.slice A m c, .int .i64 0] 109)) base A m) := ByteRow.keep HR.out (fun b' hb' => Below.heap_alloc w _ b' (by omega))
    go_enter Try.func49, Try.ntmps49
    go_wp2_with fail
    go_ret
    exact ⟨rfl, ⟨_, _, _, by omega, hb, HK.out, HW.out⟩, HB.out⟩

theorem atStrs_new (w : World) (t : TypeId) (ss : List Bs) : AtStrs (w.alloc (.cells (ss.map Value.string).toArray t)) w.heap.size 0 ss := by
  intro k hk
  rw [Nat.zero_add, cell_of_row _ w.heap.size k _ t (0, 0) (heap_alloc_new w _)]
  simp [List.getD, hk]
def Offed (w : World) (base R p : Nat) (ss : List Bs) (e : Ending) (w' : World) : Prop :=
  ∃ s, s ∈ ss ∧ e = .returned (.string s) ∧ Rdr w' base R (p + 1) ∧ w.grownBy w' (some R)
set_option maxHeartbeats 400000 in
theorem of_any (base R p g : Nat) (ss : List Bs) (w : World) (hp : p ≤ 1000000) (hr : Rdr w base R p) (hg : g ≠ R) (h0 : 0 < ss.length) (h1 : ss.length ≤ 1000000) (ha : AtStrs w g 0 ss) :
    Calls Try.prog 88 #[.pointer (some ⟨R, 0, none⟩), .slice (some ⟨g, 0, none⟩) ss.length ss.length] w (Offed w base R p ss) := by
  have HA := Lib.hid ha
  have HR := Lib.hid hr
  have hgl : g < w.heap.size := World.block_lt_of_cell? w _ (ha 0 h0)
  have HGL := Lib.hid hgl
  clear ha hr hgl
  go_enter Try.func88, Try.ntmps88
  go_wp2_with fail
  refine (pick_any base R p ss.length _ hp (by omega) HR.out).mono ?_
  rintro e w1 ⟨x, rfl, hx, hr1, hg1⟩
  have hxl : x < ss.length := by have := hx (by omega); omega
  have hcx : w1.cell? ⟨g, 0 + x, none⟩ = some (.string (ss.getD x ByteArray.empty)) := by
    have h := HA.out x hxl
    rw [← h]
    simp only [World.cell?, hg1.block g HGL.out (by intro h; injection h; omega)]
  rw [Nat.zero_add] at hcx
  have hmem : ss.getD x ByteArray.empty ∈ ss := by simp [List.getD, hxl]
  obtain ⟨s, hs⟩ : ∃ s, ss.getD x ByteArray.empty = s := ⟨_, rfl⟩
  rw [hs] at hcx hmem
  have R1 := Lib.hid hr1
  have G1 := Lib.hid hg1
  have i1 : (x : Int) < (ss.length : Int) := by omega
  clear hr1 hg1 hs hx
  go_wp2_with fail
  go_ret
  exact ⟨s, hmem, rfl, R1.out, G1.out⟩


end Go.Proofs.Ytebejpaghajhkaa
