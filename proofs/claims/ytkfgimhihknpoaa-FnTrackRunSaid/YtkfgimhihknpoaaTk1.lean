/-
  The program's tracks: trackOf, occupied, changed, can, text; TrackValid of the reference. No condition but strings that have a length.
-/
import Derived.Test.YtkfgimhihknpoaaInts
import Derived.Test.YtkfgimhihknpoaaTkPlain
namespace Go.Proofs.Ytkfgimhihknpoaa
open Go.RowKit
set_option linter.unusedVariables false

/-- Block g is just the cells cs of element type t, none frozen. -/
def Blk (w : World) (g : Nat) (t : TypeId) (cs : Array Value) : Prop := w.heap[g]? = some (.cells cs t (0, 0))
section
variable {w w' : World} {g : Nat} {t : TypeId} {cs : Array Value}
theorem Blk.lt (h : Blk w g t cs) : g < w.heap.size := by
  rcases Nat.lt_or_ge g w.heap.size with hlt | hge
  · exact hlt
  · unfold Blk at h; rw [Array.getElem?_eq_none hge] at h; cases h
theorem Blk.cell (h : Blk w g t cs) (i : Nat) : w.cell? ⟨g, i, none⟩ = cs[i]? := cell_of_row w g i cs t (0, 0) h
theorem Blk.frozen (h : Blk w g t cs) (i : Nat) : w.frozen? ⟨g, i, none⟩ = false := by
  unfold Blk at h
  simp [World.frozen?, h]
theorem Blk.new (w : World) (t : TypeId) (cs : Array Value) : Blk (w.alloc (.cells cs t)) w.heap.size t cs := heap_alloc_new w _
theorem Blk.drew (h : Blk w g t cs) : Blk w.drew g t cs := h
theorem Blk.alloc (h : Blk w g t cs) (o : Obj) : Blk (w.alloc o) g t cs := (Below.heap_alloc w o g h.lt).trans h
theorem Blk.set_ (h : Blk w g t cs) (i : Nat) (u : Value) : Blk (w.setCell ⟨g, i, none⟩ u) g t (cs.setIfInBounds i u) := by
  unfold Blk at h ⊢
  simp [World.setCell, Array.getElem?_modify, h]
theorem Blk.far (h : Blk w g t cs) {p : Addr} (hp : g ≠ p.block) (u : Value) : Blk (w.setCell p u) g t cs := (Below.heap_setCell w p u g hp).trans h
theorem Blk.below {B : Nat} (h : Blk w g t cs) (hb : Below B w w') (hg : g < B) : Blk w' g t cs := (hb.block g hg).trans h
theorem Blk.grown {row : Option Nat} (h : Blk w g t cs) (hb : w.grownBy w' row) (hg : some g ≠ row) : Blk w' g t cs := (hb.block g h.lt hg).trans h
end

set_option maxHeartbeats 400000 in
theorem occ_any (s n i : Nat) (w : World) (hs : s < 65536) (hi : i < 16) :
    Calls Try.prog 47 #[.agg #[.int .u16 s, .int .i64 n], .int .i64 i] w fun e w' => e = .returned (.bool (s.testBit i)) ∧ Below w.heap.size w w' := by
  go_enter Try.func47, Try.ntmps47
  go_wp2
  go_ret
  exact ⟨ret_bool (u16_bit s i hs hi), below_new w _⟩

set_option maxHeartbeats 400000 in
theorem chg_any (s n i : Nat) (w : World) (hs : s < 65536) (hi : i < 16) :
    Calls Try.prog 40 #[.agg #[.int .u16 s, .int .i64 n], .int .i64 i] w fun e w' => e = .returned (.agg #[.int .u16 ((s ^^^ 2 ^ i : Nat) : Int), .int .i64 n]) ∧ Below w.heap.size w w' := by
  go_enter Try.func40, Try.ntmps40
  go_wp2
  go_region
  go_wp2
  refine bodyPost_ret (v := .agg #[.int .u16 (bits .xor .u16 (s : Int) (IntKind.u16.wrap (2 ^ i))), .int .i64 n]) (by simp [results, Try.results40, go_sem]) rfl ⟨?_, ?_⟩
  · rw [u16_flip s i hs hi]
  · exact (below_new' (below_new w _) _).drew

set_option maxHeartbeats 800000 in
theorem can_any (s n i : Nat) (w : World) (hs : s < 65536) (hn : n ≤ 8) (hi : i < n) :
    Calls Try.prog 39 #[.agg #[.int .u16 s, .int .i64 n], .int .i64 i] w fun e w' => e = .returned (.bool (canB s n i)) ∧ Below w.heap.size w w' := by
  have hB := below_new w (.cells #[.int .u16 s, .int .i64 n] 54)
  have HB := Lib.hid hB
  have HK := Lib.hid (Blk.new w 54 #[.int .u16 s, .int .i64 n])
  clear hB
  have hsz : w.heap.size < (w.alloc (.cells #[.int .u16 s, .int .i64 n] 54)).heap.size := by simp
  by_cases h1 : s.testBit i = true
  · by_cases h2 : i + 1 = n
    · have hr : canB s n i = true := by simp [canB, h1, h2]
      rw [hr]; clear hr
      have t1 := beq_t (show (i : Int) = (n : Int) - 1 by omega)
      have H2 := Lib.hid h2
      clear h2
      go_enter Try.func39, Try.ntmps39
      go_wp2_with (go_at_call 47; refine (occ_any s n i _ hs (by omega)).mono ?_; rintro e w1 ⟨rfl, hb1⟩; have B1 := Lib.hid hb1; have c0 := (HK.out.below hb1 hsz).cell 0; have c1 := (HK.out.below hb1 hsz).cell 1; clear hb1)
      go_ret
      exact ⟨rfl, below_to HB.out B1.out (Nat.le_of_lt hsz)⟩
    · have hr : canB s n i = s.testBit (i + 1) := by simp [canB, h1, h2]
      rw [hr]; clear hr
      have t1 := beq_f (show (i : Int) ≠ (n : Int) - 1 by omega)
      obtain ⟨r, hr⟩ : ∃ r, s.testBit (i + 1) = r := ⟨_, rfl⟩
      have hocc := fun w => occ_any s n (i + 1) w hs (by omega)
      rw [hr] at hocc ⊢
      have HO := Lib.hid hocc
      clear hocc hr
      go_enter Try.func39, Try.ntmps39
      go_wp2_with fail
      refine (occ_any s n i _ hs (by omega)).mono ?_
      rintro e w1 ⟨rfl, hb1⟩
      have B1 := Lib.hid hb1
      have c0 := (HK.out.below hb1 hsz).cell 0
      have c1 := (HK.out.below hb1 hsz).cell 1
      clear hb1
      go_wp2_with fail
      have e1 : ((i : Int) + 1) = ((i + 1 : Nat) : Int) := by omega
      rw [e1]
      clear e1
      refine (HO.out _).mono ?_
      rintro e w2 ⟨rfl, hb2⟩
      have B2 := Lib.hid hb2
      clear hb2
      go_wp2_with fail
      go_ret
      exact ⟨rfl, below_to (below_to HB.out B1.out (Nat.le_of_lt hsz)) B2.out (by have := B1.out.size; omega)⟩
  · have h1' : s.testBit i = false := by simpa using h1
    clear h1
    by_cases h2 : i = 0
    · have hr : canB s n i = true := by unfold canB; rw [h1']; simp [h2]
      rw [hr]; clear hr
      have t1 := beq_t (show (i : Int) = 0 by omega)
      have H2 := Lib.hid h2
      clear h2
      go_enter Try.func39, Try.ntmps39
      go_wp2_with (go_at_call 47; refine (occ_any s n i _ hs (by omega)).mono ?_; rintro e w1 ⟨rfl, hb1⟩; have B1 := Lib.hid hb1; have c0 := (HK.out.below hb1 hsz).cell 0; have c1 := (HK.out.below hb1 hsz).cell 1; clear hb1)
      go_ret
      exact ⟨rfl, below_to HB.out B1.out (Nat.le_of_lt hsz)⟩
    · have hr : canB s n i = s.testBit (i - 1) := by simp [canB, h1', h2]
      rw [hr]; clear hr
      have t1 := beq_f (show (i : Int) ≠ 0 by omega)
      obtain ⟨r, hr⟩ : ∃ r, s.testBit (i - 1) = r := ⟨_, rfl⟩
      have hocc := fun w => occ_any s n (i - 1) w hs (by omega)
      rw [hr] at hocc ⊢
      have HO := Lib.hid hocc
      clear hocc hr
      go_enter Try.func39, Try.ntmps39
      go_wp2_with fail
      refine (occ_any s n i _ hs (by omega)).mono ?_
      rintro e w1 ⟨rfl, hb1⟩
      have B1 := Lib.hid hb1
      have c0 := (HK.out.below hb1 hsz).cell 0
      have c1 := (HK.out.below hb1 hsz).cell 1
      clear hb1
      go_wp2_with fail
      have e1 : ((i : Int) - 1) = ((i - 1 : Nat) : Int) := by omega
      rw [e1]
      clear e1
      refine (HO.out _).mono ?_
      rintro e w2 ⟨rfl, hb2⟩
      have B2 := Lib.hid hb2
      clear hb2
      go_wp2_with fail
      go_ret
      exact ⟨rfl, below_to (below_to HB.out B1.out (Nat.le_of_lt hsz)) B2.out (by have := B1.out.size; omega)⟩

theorem slU8 : SlT 24 5 1 1 (.int .u8 0) := ⟨Try.underlying24, info_parts (by kernel_rfl), rfl, by decide⟩

/-- The cells of the letters. -/
def lets (l : List UInt8) : List Value := l.map fun c => .int .u8 (c.toNat : Int)
def txk (s k n : Nat) : List UInt8 := tx s k ++ List.replicate (n - k) 0
theorem txk_set (s k n : Nat) (hk : k < n) (c : UInt8) (hc : c = if s.testBit k then 49 else 48) : (lets (txk s k n)).set k (.int .u8 (c.toNat : Int)) = lets (txk s (k + 1) n) := by
  unfold lets
  rw [← List.map_set]
  congr 1
  apply List.ext_getElem?
  intro j
  unfold txk
  simp only [List.getElem?_set, List.getElem?_append, tx_length, List.length_append, List.length_replicate, List.getElem?_replicate]
  by_cases h1 : k = j
  · subst h1
    rw [tx_get s (k + 1) k (by omega)]
    simp [hc]
    omega
  · by_cases h2 : j < k
    · simp [h1, h2, show j < k + 1 by omega, tx_get s k j h2, tx_get s (k + 1) j (by omega)]
    · by_cases h3 : j < n
      · simp [h1, h2, show ¬ j < k + 1 by omega, show j - k < n - k by omega, show j - (k + 1) < n - (k + 1) by omega]
      · simp [h1, h2, show ¬ j < k + 1 by omega, show ¬ j - k < n - k by omega, show ¬ j - (k + 1) < n - (k + 1) by omega]
theorem txk_length (s k n : Nat) (hk : k ≤ n) : (lets (txk s k n)).length = n := by simp [lets, txk, tx_length]; omega
theorem txk_at (s k n : Nat) (hk : k < n) : (lets (txk s k n))[k]? = some (.int .u8 0) := by
  simp [lets, txk]
  rw [List.getElem?_append_right (by simp [tx_length])]
  simp [tx_length, show 0 < n - k by omega]

set_option maxHeartbeats 1600000 in
theorem text_any (s n : Nat) (w : World) (hs : s < 65536) (hn : n ≤ 8) :
    Calls Try.prog 44 #[.agg #[.int .u16 s, .int .i64 n]] w fun e w' => e = .returned (.string (T s n)) ∧ Below w.heap.size w w' := by
  have HK := Lib.hid (Blk.new w 54 #[.int .u16 s, .int .i64 n])
  have HB := Lib.hid (below_new w (.cells #[.int .u16 s, .int .i64 n] 54))
  go_enter Try.func44, Try.ntmps44
  go_wp2_with (at_make; refine wpList_mk1 slU8 rfl rfl (.tmp 6) (.tmp 6) rfl _ w.heap.size n rfl rfl (by omega) (by unfold maxLen; omega) (by simp) ?_)
  intro w1 hown1 hg1
  have HK1 : Hid (Blk w1 w.heap.size 54 #[.int .u16 s, .int .i64 n]) := HK.out.grown hg1 (by simp)
  have HO1 : Hid (OwnV w1 w.heap.size 5 1 (w.heap.size + 1) n n (lets (txk s 0 n))) := by
    have : lets (txk s 0 n) = List.replicate n (.int .u8 0) := by simp [lets, txk, tx]
    rw [this]; exact hown1
  have HB1 : Hid (Below w.heap.size w w1) := HB.out.grown hg1 (by simp) (by simp)
  have c1 := HK1.out.cell 1
  clear hown1 hg1 HK HB
  go_wp2_with fail
  go_loopw [10] (fun q wr => ∃ k : Nat, k ≤ n ∧ q = .int .i64 k ∧ OwnV wr w.heap.size 5 1 (w.heap.size + 1) n n (lets (txk s k n)) ∧ Blk wr w.heap.size 54 #[.int .u16 s, .int .i64 n] ∧ Below w.heap.size w wr) (fun q _ => n - (intOf q).toNat)
  case atStart => exact ⟨0, Nat.zero_le _, rfl, HO1.out, HK1.out, HB1.out⟩
  case round =>
    clear HO1 HK1 HB1 c1
    obtain ⟨k, hk, rfl, hown, hblk, hbel⟩ := hrel
    by_cases hlt : k < n
    · have c0 := hblk.cell 0
      have c1 := hblk.cell 1
      have ck : wr.cell? ⟨w.heap.size + 1, k, none⟩ = some (.int .u8 0) := by rw [hown.cell k (by omega), txk_at s k n hlt]
      have fk := hown.frozen k
      have st1 := hown.store k (.int .u8 48)
      have bk1 := hblk.far (p := ⟨w.heap.size + 1, k, none⟩) (by simp) (.int .u8 48)
      have be1 := hbel.setCell (p := ⟨w.heap.size + 1, k, none⟩) (by simp) (.int .u8 48)
      have hl1 := bk1.lt
      have hl2 := st1.lt
      have ck1 := st1.cell k (by omega)
      have hkl : k < (lets (txk s k n)).length := by rw [txk_length s k n (by omega)]; exact hlt
      rw [List.getElem?_set_self hkl] at ck1
      by_cases hbit : s.testBit k = true
      · have HST : Hid (OwnV (wr.setCell ⟨w.heap.size + 1, k, none⟩ (.int .u8 48)) w.heap.size 5 1 (w.heap.size + 1) n n ((lets (txk s k n)).set k (.int .u8 48))) := st1
        have HBK := Lib.hid bk1
        have HBE := Lib.hid be1
        have hset : ((lets (txk s k n)).set k (.int .u8 48)).set k (.int .u8 49) = lets (txk s (k + 1) n) := by
          rw [List.set_set]
          exact txk_set s k n hlt 49 (by rw [hbit]; rfl)
        have HSET := Lib.hid hset
        clear hown hblk hbel st1 bk1 be1 hset hl1 hl2 ck1
        go_wp2_with (go_at_call 47; refine (occ_any s n k _ hs (by omega)).mono ?_; rintro e w2 ⟨rfl, hb2⟩; have O2 := Lib.hid (HST.out.below hb2 HST.out.lt); have K2 := Lib.hid (HBK.out.below hb2 HBK.out.lt); have E2 := Lib.hid (below_to HBE.out hb2 HBE.out.size); have ck2 := O2.out.cell k (by omega); rw [List.getElem?_set_self hkl] at ck2; have fk2 := O2.out.frozen k; clear hb2)
        go_roundw
        case rel =>
          have := O2.out.store k (.int .u8 49)
          rw [HSET.out] at this
          exact ⟨k + 1, by omega, by go_num, this, K2.out.far (by simp) _, E2.out.setCell (by simp) _⟩
        case measure => simp [intOf]; omega
      · have hbit' : s.testBit k = false := by simpa using hbit
        clear hbit
        have hset : (lets (txk s k n)).set k (.int .u8 48) = lets (txk s (k + 1) n) := txk_set s k n hlt 48 (by rw [hbit']; rfl)
        rw [hset] at st1
        have HST := Lib.hid st1
        have HBK := Lib.hid bk1
        have HBE := Lib.hid be1
        clear hown hblk hbel st1 bk1 be1 hset hl1 hl2 ck1
        go_wp2_with (go_at_call 47; refine (occ_any s n k _ hs (by omega)).mono ?_; rintro e w2 ⟨rfl, hb2⟩; have O2 := Lib.hid (HST.out.below hb2 HST.out.lt); have K2 := Lib.hid (HBK.out.below hb2 HBK.out.lt); have E2 := Lib.hid (below_to HBE.out hb2 HBE.out.size); clear hb2)
        go_roundw
        case rel => exact ⟨k + 1, by omega, by go_num, O2.out, K2.out, E2.out⟩
        case measure => simp [intOf]; omega
    · have hkn : k = n := by omega
      have hcv := run_convert_bytes_back (P := Try.prog) wr 24 9 5 ⟨w.heap.size + 1, 0, none⟩ n (tx s n) Try.underlying24 Try.underlying5 Try.underlying9 (by
        intro j hj
        have hj' : j < n := by rw [tx_length] at hj; exact hj
        rw [Addr.add_lit, Nat.zero_add, hown.cell j (by omega), hkn]
        simp [lets, txk]
        exact ⟨_, List.getElem?_eq_getElem hj, rfl⟩)
      rw [tx_length] at hcv
      have HBE := Lib.hid hbel
      clear hown hblk hbel hkn
      go_wp2
      go_ret
      exact ⟨rfl, HBE.out⟩

def trB (S : ByteArray) : Bool := inB 1 8 S.size && S.data.toList.all okCh
def tset (S : ByteArray) : Nat := if trB S = true then tbk S.data.toList S.size else 0
def tsz (S : ByteArray) : Nat := if trB S = true then S.size else 0
theorem S_get (S : ByteArray) (k : Nat) (h : k < S.size) : S.data.toList.getD k 0 = S[k] := by
  have hl : S.data.toList.length = S.size := Array.length_toList
  rw [List.getD, List.getElem?_eq_getElem (by omega)]
  rfl
theorem S_all (S : ByteArray) (k : Nat) (h : k < S.size) (ha : (S.data.toList.take k).all okCh = true) (hx : okCh S[k] = true) : (S.data.toList.take (k + 1)).all okCh = true := by
  have hl : S.data.toList.length = S.size := Array.length_toList
  rw [List.take_succ_eq_append_getElem (by omega), List.all_append, ha]
  have : S.data.toList[k]'(by omega) = S[k] := rfl
  simp [this, hx]
theorem S_no (S : ByteArray) (k : Nat) (h : k < S.size) (hx : okCh S[k] = false) : S.data.toList.all okCh = false := by
  have hl : S.data.toList.length = S.size := Array.length_toList
  rw [List.all_eq_false]
  exact ⟨S.data.toList[k]'(by omega), List.getElem_mem _, by have : S.data.toList[k]'(by omega) = S[k] := rfl; rw [this, hx]; simp⟩
theorem S_take (S : ByteArray) (k : Nat) (h : ¬ k < S.size) : S.data.toList.take k = S.data.toList := by
  have hl : S.data.toList.length = S.size := Array.length_toList
  exact List.take_of_length_le (by omega)
theorem trB_len {S : ByteArray} (h : trB S = true) : 1 ≤ S.size ∧ S.size ≤ 8 := by
  unfold trB at h
  rw [Bool.and_eq_true] at h
  have := inB_iff.1 h.1
  omega
/-- A valid text is the text of its bits. -/
theorem trB_T {S : ByteArray} (h : trB S = true) : ∃ s n, 1 ≤ n ∧ n ≤ 8 ∧ s < 2 ^ n ∧ S = T s n := by
  have hl := trB_len h
  unfold trB at h
  rw [Bool.and_eq_true] at h
  exact ⟨_, S.size, hl.1, hl.2, tbk_lt _ _, T_tb h.2⟩
theorem trB_of (s n : Nat) (h1 : 1 ≤ n) (h2 : n ≤ 8) : trB (T s n) = true := by
  unfold trB
  rw [T_size, T_data, tx_ok, inB_true (by omega)]
  rfl

set_option maxHeartbeats 1600000 in
theorem trackOf_any (S : ByteArray) (w : World) (hs : S.size ≤ 9223372036854775807) :
    Calls Try.prog 38 #[.string S] w fun e w' => e = .returned (.tuple #[.agg #[.int .u16 (tset S), .int .i64 (tsz S)], .bool (trB S)]) ∧ Below w.heap.size w w' := by
  by_cases h0 : S.size = 0
  · have hr : trB S = false := by unfold trB; rw [inB_false (by omega)]; rfl
    have e1 : tset S = 0 := by simp [tset, hr]
    have e2 : tsz S = 0 := by simp [tsz, hr]
    rw [e1, e2, hr]; clear e1 e2 hr
    have t0 := beq_t (show (S.size : Int) = 0 by omega)
    have H0 := Lib.hid h0
    clear h0
    go_enter Try.func38, Try.ntmps38
    go_wp2
    exact bodyPost_ret (v := .tuple #[.agg #[.int .u16 0, .int .i64 0], .bool false]) (by simp [results, Try.results38, go_sem]) rfl ⟨rfl, below_new w _⟩
  · have t0 := beq_f (show (S.size : Int) ≠ 0 by omega)
    by_cases h8 : 8 < S.size
    · have hr : trB S = false := by unfold trB; rw [inB_false (by omega)]; rfl
      have e1 : tset S = 0 := by simp [tset, hr]
      have e2 : tsz S = 0 := by simp [tsz, hr]
      rw [e1, e2, hr]; clear e1 e2 hr
      have t1 := dec_t (show (8 : Int) < (S.size : Int) by omega)
      go_enter Try.func38, Try.ntmps38
      go_wp2
      exact bodyPost_ret (v := .tuple #[.agg #[.int .u16 0, .int .i64 0], .bool false]) (by simp [results, Try.results38, go_sem]) rfl ⟨rfl, below_new w _⟩
    · have t1 := dec_f (show ¬ (8 : Int) < (S.size : Int) by omega)
      obtain ⟨r, hr⟩ : ∃ r, trB S = r := ⟨_, rfl⟩
      have hrr : r = S.data.toList.all okCh := by rw [← hr]; unfold trB; rw [inB_true (by omega)]; rfl
      have HR := Lib.hid hrr
      have HTR := Lib.hid hr
      clear hrr hr
      have hsz : S.size ≤ 8 := by omega
      go_enter Try.func38, Try.ntmps38
      go_wp2
      go_loopw [20] (fun q wr => ∃ k : Nat, k ≤ S.size ∧ q = .int .i64 k ∧ Blk wr w.heap.size 54 #[.int .u16 0, .int .i64 0] ∧ Blk wr (w.heap.size + 1) 54 #[.int .u16 (tbk S.data.toList k), .int .i64 S.size] ∧ Below w.heap.size w wr ∧ (S.data.toList.take k).all okCh = true) (fun q _ => S.size - (intOf q).toNat)
      case atStart => exact ⟨0, Nat.zero_le _, rfl, (Blk.new w _ _).alloc _, by simpa [tbk] using Blk.new (w.alloc (.cells #[.int .u16 0, .int .i64 0] 54)) 54 #[.int .u16 0, .int .i64 S.size], below_new' (below_new w _) _, rfl⟩
      case round =>
        obtain ⟨k, hk, rfl, hb0, hb1, hbel, hall⟩ := hrel
        have HALL := Lib.hid hall
        clear hall
        have r0 := hb0.cell 0
        have r1 := hb0.cell 1
        have f0 := hb0.frozen 0
        have f1 := hb0.frozen 1
        have q0 := hb1.cell 0
        have q1 := hb1.cell 1
        have g0 := hb1.frozen 0
        by_cases hlt : k < S.size
        · obtain ⟨x, hx⟩ : ∃ x : UInt8, S[k] = x := ⟨_, rfl⟩
          have hgk := S_get S k hlt
          have hall1 := S_all S k hlt HALL.out
          have hno := S_no S k hlt
          rw [hx] at hgk hall1 hno
          by_cases h48 : x = 48
          · have hst : tbk S.data.toList (k + 1) = tbk S.data.toList k := by simp only [tbk]; rw [if_neg (by rw [hgk, h48]; decide)]
            rw [← hst] at hb1
            have HB1 := Lib.hid hb1
            have HALL1 := Lib.hid (hall1 (by rw [h48]; rfl))
            have HB0 := Lib.hid hb0
            have HBE := Lib.hid hbel
            subst h48
            clear hst hb1 hall1 hno hgk hb0 hbel r0 r1 f0 f1 q0 q1 g0
            go_wp2
            go_roundw
            case rel => exact ⟨k + 1, by omega, by go_num, HB0.out, HB1.out, HBE.out, HALL1.out⟩
            case measure => simp [intOf]; omega
          · by_cases h49 : x = 49
            · have hst : tbk S.data.toList (k + 1) = tbk S.data.toList k ||| 2 ^ k := by simp only [tbk]; rw [if_pos (by rw [hgk, h49])]
              have hlt2 := tbk_lt S.data.toList k
              have hp8 := pow8 (show k ≤ 8 by omega)
              have hset := u16_set (tbk S.data.toList k) k (by omega) (by omega)
              have hb1' := hb1.set_ 0 (.int .u16 (bits .or .u16 (tbk S.data.toList k : Int) (IntKind.u16.wrap (2 ^ k))))
              have HB1 : Hid (Blk (wr.setCell ⟨w.heap.size + 1, 0, none⟩ (.int .u16 (bits .or .u16 (tbk S.data.toList k : Int) (IntKind.u16.wrap (2 ^ k))))) (w.heap.size + 1) 54 #[.int .u16 (tbk S.data.toList (k + 1)), .int .i64 S.size]) := by
                have e : #[Value.int .u16 (tbk S.data.toList (k + 1)), Value.int .i64 S.size] = #[Value.int .u16 (tbk S.data.toList k), Value.int .i64 S.size].setIfInBounds 0 (.int .u16 (bits .or .u16 (tbk S.data.toList k : Int) (IntKind.u16.wrap (2 ^ k)))) := by
                  rw [hset, hst]; rfl
                rw [e]; exact hb1'
              have HB0 : Hid (Blk (wr.setCell ⟨w.heap.size + 1, 0, none⟩ (.int .u16 (bits .or .u16 (tbk S.data.toList k : Int) (IntKind.u16.wrap (2 ^ k))))) w.heap.size 54 #[.int .u16 0, .int .i64 0]) := hb0.far (by simp) _
              have HBE : Hid (Below w.heap.size w (wr.setCell ⟨w.heap.size + 1, 0, none⟩ (.int .u16 (bits .or .u16 (tbk S.data.toList k : Int) (IntKind.u16.wrap (2 ^ k)))))) := hbel.setCell (by simp) _
              have HALL1 := Lib.hid (hall1 (by rw [h49]; rfl))
              subst h49
              clear hst hset hb1' hb1 hall1 hno hgk hb0 hbel r0 r1 f0 f1 hlt2 hp8 h48
              go_wp2
              go_region
              all_goals go_wp2
              go_roundw
              case rel => exact ⟨k + 1, by omega, by go_num, HB0.out, HB1.out, HBE.out.drew, HALL1.out⟩
              case measure => simp [intOf]; omega
            · have hxf : okCh x = false := by simp [okCh, h48, h49]
              have n48 : ((x.toNat : Int) == 48) = false := by
                have : x.toNat ≠ 48 := fun h => h48 (UInt8.toNat_inj.1 h)
                simp; omega
              have n49 : ((x.toNat : Int) == 49) = false := by
                have : x.toNat ≠ 49 := fun h => h49 (UInt8.toNat_inj.1 h)
                simp; omega
              have HRF : Hid (r = false) := by rw [HR.out]; exact hno hxf
              have HBE := Lib.hid hbel
              have HB0 := Lib.hid hb0
              clear hno hxf hall1 hgk hb0 hb1 hbel q0 q1 g0
              go_wp2
              have hrf := HRF.out
              have htr := HTR.out
              rw [hrf] at htr
              have e1 : tset S = 0 := by simp [tset, htr]
              have e2 : tsz S = 0 := by simp [tsz, htr]
              rw [e1, e2, htr]
              refine bodyPost_ret (v := .tuple #[.agg #[.int .u16 0, .int .i64 0], .bool false]) ?_ rfl ⟨rfl, ?_⟩
              · simp [results, Try.results38, go_sem, r0, r1]
              · exact (HBE.out.setCell (by simp) _).setCell (by simp) _
        · have hrt : r = true := by rw [HR.out, ← HALL.out, S_take S k hlt]
          have hks : k = S.size := by omega
          have htr := HTR.out
          rw [hrt] at htr
          have e1 : tset S = tbk S.data.toList k := by simp [tset, htr, hks]
          have e2 : tsz S = S.size := by simp [tsz, htr]
          have HE1 := Lib.hid e1
          have HE2 := Lib.hid e2
          have HT := Lib.hid htr
          have HBE := Lib.hid hbel
          clear e1 e2 htr hks hrt hb0 hb1 hbel
          go_wp2
          rw [HE1.out, HE2.out, HT.out]
          refine bodyPost_ret (v := .tuple #[.agg #[.int .u16 (tbk S.data.toList k), .int .i64 S.size], .bool true]) ?_ rfl ⟨rfl, ?_⟩
          · simp [results, Try.results38, go_sem, r0, r1]
          · exact (HBE.out.setCell (by simp) _).setCell (by simp) _

end Go.Proofs.Ytkfgimhihknpoaa
