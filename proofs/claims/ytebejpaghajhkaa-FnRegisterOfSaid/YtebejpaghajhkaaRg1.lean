/-
  Registers: lists of notes in memory, and the laws' helpers for them. No condition but lengths that fit.
-/
import Derived.Test.YtebejpaghajhkaaLn1
import Derived.Test.YtebejpaghajhkaaOpn
import Derived.Deep.RegionHeld3
namespace Go.Proofs.Ytebejpaghajhkaa
open Go.RowKit
set_option linter.unusedVariables false
set_option linter.unusedSimpArgs false

def ncells : List NV → List Value
  | [] => []
  | b :: bs => .int .i64 b.1 :: .string b.2 :: ncells bs
theorem ncells_length (bs : List NV) : (ncells bs).length = bs.length * 2 := by
  induction bs with
  | nil => rfl
  | cons b bs ih => simp [ncells, ih]; omega
theorem ncells_app (xs ys : List NV) : ncells (xs ++ ys) = ncells xs ++ ncells ys := by
  induction xs with
  | nil => rfl
  | cons b bs ih => simp [ncells, ih]
theorem ncells_get (bs : List NV) : ∀ k, k < bs.length → (ncells bs)[k * 2]? = some (.int .i64 (bs.getD k Z2).1) ∧ (ncells bs)[k * 2 + 1]? = some (.string (bs.getD k Z2).2) := by
  induction bs with
  | nil => intro k hk; simp at hk
  | cons b bs ih =>
    intro k hk
    cases k with
    | zero => simp [ncells]
    | succ k =>
      have := ih k (by simpa using hk)
      rw [show (k + 1) * 2 = k * 2 + 1 + 1 by omega]
      simpa [ncells] using this
theorem ncells_set (bs : List NV) (b : NV) : ∀ k, k < bs.length → ((ncells bs).set (k * 2) (.int .i64 b.1)).set (k * 2 + 1) (.string b.2) = ncells (bs.set k b) := by
  induction bs with
  | nil => intro k hk; simp at hk
  | cons x bs ih =>
    intro k hk
    cases k with
    | zero => simp [ncells]
    | succ k =>
      have := ih k (by simpa using hk)
      rw [show (k + 1) * 2 = k * 2 + 1 + 1 by omega]
      simpa [ncells] using this
theorem ncells_one (bs : List NV) : ∀ u ∈ ncells bs, u.oneCell' = true := by
  induction bs with
  | nil => intro u hu; simp [ncells] at hu
  | cons b bs ih =>
    intro u hu
    simp only [ncells, List.mem_cons] at hu
    rcases hu with rfl | rfl | hu
    · rfl
    · rfl
    · exact ih u hu
theorem slNt : SlT 27 48 2 24 (.agg #[.int .i64 0, .string ByteArray.empty]) := ⟨Try.underlying27, info_parts (by kernel_rfl), rfl, by decide⟩
def OwnNm (w : World) (base g c m : Nat) (ms : List NV) : Prop := OwnV w base 48 2 g c m (ncells ms)
def OwnN (w : World) (base g c : Nat) (ms : List NV) : Prop := OwnNm w base g c ms.length ms
section
variable {w w' : World} {base base' g c m off : Nat} {ms : List NV}
theorem OwnNm.len (h : OwnNm w base g c m ms) : m = ms.length := by
  have := (OwnV.parts h).1
  rw [ncells_length] at this
  omega
theorem OwnNm.own (h : OwnNm w base g c m ms) : OwnN w base g c ms := by
  have := h.len
  subst this
  exact h
theorem OwnN.at (h : OwnN w base g c ms) : AtNt w g 0 ms := by
  intro k hk
  obtain ⟨h0, h1⟩ := ncells_get ms k hk
  rw [Nat.zero_add]
  exact ⟨(OwnV.cell h (k * 2) (by omega)).trans h0, (OwnV.cell h (k * 2 + 1) (by omega)).trans h1⟩
theorem OwnN.below {B : Nat} (h : OwnN w base g c ms) (hb : Below B w w') (hg : g < B) : OwnN w' base g c ms := OwnV.below h hb hg
theorem OwnN.lt (h : OwnN w base g c ms) : g < w.heap.size := OwnV.lt h
theorem OwnN.le (h : OwnN w base g c ms) : base ≤ g := OwnV.le h
theorem OwnN.facts (h : OwnN w base g c ms) (k : Nat) (hk : k < ms.length) : w.cell? ⟨g, k * 2, none⟩ = some (.int .i64 (ms.getD k Z2).1) ∧ w.cell? ⟨g, k * 2 + 1, none⟩ = some (.string (ms.getD k Z2).2) ∧ w.frozen? ⟨g, k * 2, none⟩ = false ∧ w.frozen? ⟨g, k * 2 + 1, none⟩ = false := by
  have := h.at k hk
  rw [Nat.zero_add] at this
  exact ⟨this.1, this.2, OwnV.frozen h _, OwnV.frozen h _⟩
theorem OwnN.store (h : OwnN w base g c ms) (k : Nat) (hk : k < ms.length) (x : NV) : OwnN ((w.setCell ⟨g, k * 2, none⟩ (.int .i64 x.1)).setCell ⟨g, k * 2 + 1, none⟩ (.string x.2)) base g c (ms.set k x) := by
  have := OwnV.store (OwnV.store h (k * 2) (.int .i64 x.1)) (k * 2 + 1) (.string x.2)
  rw [ncells_set ms x k hk] at this
  unfold OwnN OwnNm
  rw [List.length_set]
  exact this
theorem AtNt.below {B : Nat} (h : AtNt w g off ms) (hb : Below B w w') (hl : g < B) : AtNt w' g off ms := fun k hk =>
  ⟨(hb.cell (p := ⟨g, off + k * 2, none⟩) hl).trans (h k hk).1, (hb.cell (p := ⟨g, off + k * 2 + 1, none⟩) hl).trans (h k hk).2⟩
end
theorem RdNt.below {w w' : World} {A : Option Addr} {ms : List NV} (h : RdNt w A ms) (hb : Below w.heap.size w w') : RdNt w' A ms := fun hp => by
  obtain ⟨b, off, hA, hlt, hat⟩ := h hp
  exact ⟨b, off, hA, Nat.lt_of_lt_of_le hlt hb.size, hat.below hb hlt⟩
theorem ownNm_empty (w : World) (base : Nat) (hb : base ≤ w.heap.size) : OwnNm (w.alloc (.cells #[] 48)) base w.heap.size 0 0 [] := OwnV.lit #[] hb (by unfold maxLen; omega) rfl
def NewNt (w : World) (ms : List NV) (e : Ending) (w' : World) : Prop :=
  ∃ g c, e = .returned (.slice (some ⟨g, 0, none⟩) ms.length c) ∧ OwnN w' w.heap.size g c ms ∧ Below w.heap.size w w'
def NewNtB (w : World) (ms : List NV) (b : Bool) (e : Ending) (w' : World) : Prop :=
  ∃ g c, e = .returned (.tuple #[.slice (some ⟨g, 0, none⟩) ms.length c, .bool b]) ∧ OwnN w' w.heap.size g c ms ∧ Below w.heap.size w w'
theorem made_nt (n : Nat) : (madeCells (Value.agg #[.int .i64 0, .string ByteArray.empty]).cells (n * 2)).toList = ncells (List.replicate n Z2) := by
  have e : (Value.agg #[.int .i64 0, .string ByteArray.empty]).cells = #[.int .i64 0, .string ByteArray.empty] := rfl
  rw [e]
  clear e
  induction n with
  | zero => simp [madeCells, ncells]
  | succ n ih =>
    rw [List.replicate_succ', ncells_app, ← ih]
    simp only [madeCells, Array.toList_map, Array.toList_range]
    rw [show (n + 1) * 2 = n * 2 + 1 + 1 by omega, List.range_succ, List.range_succ]
    have h0 : (n * 2) % 2 = 0 := by omega
    have h1 : (n * 2 + 1) % 2 = 1 := by omega
    simp [h0, h1, ncells]
/-- 'make([]Note, n)'. -/
theorem wpList_mkN {ops : Array Oper} {rest : List Oper} {o : Oper} {a : Act} {Q : Exit → Act → World → Prop} (hgd : o.guard = none) (l d : Operand)
    (ho : o.op = Op.makeSlice 27 l d) (w : World) (base n : Nat) (hl : a.eval l = .int .i64 n) (hd : a.eval d = .int .i64 n) (hb : n ≤ 1048576) (hbase : base ≤ w.heap.size)
    (h : ∀ w', OwnV w' base 48 2 w.heap.size n n (ncells (List.replicate n Z2)) → w.grownBy w' none → wpList Try.prog ops Q rest (a.put o.dst (.slice (some ⟨w.heap.size, 0, none⟩) n n)) w') :
    wpList Try.prog ops Q (o :: rest) a w := by
  obtain ⟨i, hi, hz, hsz, hby⟩ := slNt.info
  refine wpList_make_full w hgd l d 27 ho base 48 i _ 2 slNt.und hi hz hsz .i64 .i64 _ _ n hl hd rfl rfl (by rw [hby]; omega) (by unfold maxLen; omega) hbase ?_
  intro w' h1 h2
  refine h w' ?_ h2
  rw [made_nt] at h1
  exact h1

set_option maxHeartbeats 400000 in
theorem toNote_any (n : Int) (s : ByteArray) (w : World) : Calls Try.prog 63 #[.agg #[.int .i64 n, .string s]] w fun e w' => e = .returned (.agg #[.int .i64 n, .string s]) ∧ Below w.heap.size w w' := by
  go_enter Try.func63, Try.ntmps63
  go_wp2
  refine bodyPost_ret (v := .agg #[.int .i64 n, .string s]) (by simp [results, Try.results63, go_sem]) rfl ⟨rfl, below_new' (below_new' (below_new w _) _) _⟩
theorem fill_setN (zs : List NV) (k : Nat) (hk : k < zs.length) :
    (zs.take k ++ List.replicate (zs.length - k) Z2).set k (zs.getD k Z2) = zs.take (k + 1) ++ List.replicate (zs.length - (k + 1)) Z2 := by
  apply List.ext_getElem?
  intro j
  simp only [List.getElem?_set, List.getElem?_append, List.length_take, List.getElem?_take, List.length_append, List.length_replicate, List.getElem?_replicate]
  have hm : min k zs.length = k := by omega
  have hm' : min (k + 1) zs.length = k + 1 := by omega
  rw [hm, hm']
  by_cases h1 : k = j
  · subst h1
    simp [hk]
    omega
  · by_cases h2 : j < k
    · simp [h1, h2, show j < k + 1 by omega]
    · by_cases h3 : j < zs.length
      · simp [h1, h2, show ¬ j < k + 1 by omega, show j - k < zs.length - k by omega, show j - (k + 1) < zs.length - (k + 1) by omega]
      · simp [h1, h2, show ¬ j < k + 1 by omega, show ¬ j - k < zs.length - k by omega, show ¬ j - (k + 1) < zs.length - (k + 1) by omega]
set_option maxHeartbeats 800000 in
theorem toNoteS_any (A : Option Addr) (c : Nat) (ns : List NV) (w : World) (hn : ns.length ≤ 1048576) (hr : RdNt w A ns) :
    Calls Try.prog 24 #[.slice A ns.length c] w (NewNt w ns) := by
  have HR := Lib.hid hr
  clear hr
  go_enter Try.func24, Try.ntmps24
  go_wp2_with (at_make; refine wpList_mkN rfl (.tmp 6) (.tmp 6) rfl w w.heap.size ns.length rfl rfl (by omega) (Nat.le_refl _) ?_; intro w1 hown1 hg1; have hb1 : Below w.heap.size w w1 := (Below.refl _ _).grown hg1 (Nat.le_refl _) (by simp))
  go_loopw [4] (fun i wr => ∃ k : Nat, k ≤ ns.length ∧ i = .int .i64 k ∧ OwnV wr w.heap.size 48 2 w.heap.size ns.length ns.length (ncells (ns.take k ++ List.replicate (ns.length - k) Z2)) ∧ Below w.heap.size w wr) (fun i _ => ns.length - (intOf i).toNat)
  case atStart => exact ⟨0, Nat.zero_le _, rfl, by simpa using hown1, hb1⟩
  case round =>
    clear hown1 hg1 hb1
    obtain ⟨k, hk, rfl, hown, hbel⟩ := hrel
    by_cases hlt : k < ns.length
    · obtain ⟨b, off, rfl, hb, hat⟩ := HR.out (by omega)
      have hc := hat.below hbel hb k hlt
      obtain ⟨x, hx⟩ : ∃ x, ns.getD k Z2 = x := ⟨_, rfl⟩
      rw [hx] at hc
      obtain ⟨h0, h1⟩ := hc
      have hlen : (ns.take k ++ List.replicate (ns.length - k) Z2).length = ns.length := by simp; omega
      have HO : Hid (OwnN wr w.heap.size w.heap.size ns.length (ns.take k ++ List.replicate (ns.length - k) Z2)) := Lib.hid (by unfold OwnN OwnNm; rw [hlen]; exact hown)
      have HL := Lib.hid hown.lt
      have HB := Lib.hid hbel
      have HF := Lib.hid (fill_setN ns k hlt)
      have HX := Lib.hid hx
      have HLN := Lib.hid hlen
      have HT := Lib.hid (fun w => toNote_any x.1 x.2 w)
      clear hown hbel hat hx hlen
      go_wp2_with (go_at_call 63; go_must (go_fit (HT.out _); rintro e w2 ⟨rfl, hb2⟩; have O2 := Lib.hid (HO.out.below hb2 HL.out); have B2 := Lib.hid (below_to HB.out hb2 HB.out.size); obtain ⟨f0, f1, z0, z1⟩ := O2.out.facts k (by rw [HLN.out]; omega); clear hb2 h0 h1))
      have HS := Lib.hid (O2.out.store k (by rw [HLN.out]; omega) x)
      have B3 := Lib.hid ((B2.out.setCell (p := ⟨w.heap.size, k * 2, none⟩) (Nat.le_refl _) (.int .i64 x.1)).setCell (p := ⟨w.heap.size, k * 2 + 1, none⟩) (Nat.le_refl _) (.string x.2))
      go_roundw
      case rel =>
        refine ⟨k + 1, by omega, by go_num, ?_, B3.out⟩
        have h := HS.out
        rw [← HX.out, HF.out] at h
        unfold OwnN OwnNm at h
        have e : (ns.take (k + 1) ++ List.replicate (ns.length - (k + 1)) Z2).length = ns.length := by simp; omega
        rw [e, HX.out] at h
        exact h
      case measure => simp [intOf]; omega
    · go_wp2
      go_ret
      refine ⟨w.heap.size, ns.length, rfl, ?_, hbel⟩
      have e : ns.take k ++ List.replicate (ns.length - k) Z2 = ns := by
        rw [List.take_of_length_le (by omega), show ns.length - k = 0 by omega]; simp
      rw [e] at hown
      exact hown

set_option maxHeartbeats 400000 in
theorem eqNote_same (n : Int) (s : ByteArray) (w : World) : Calls Try.prog 64 #[.agg #[.int .i64 n, .string s], .agg #[.int .i64 n, .string s]] w fun e w' => e = .returned (.bool true) ∧ Below w.heap.size w w' := by
  go_enter Try.func64, Try.ntmps64
  go_wp2
  go_ret
  exact ⟨rfl, below_new' (below_new w _) _⟩
set_option maxHeartbeats 800000 in
theorem eqNoteS_same (b off c b' off' c' : Nat) (ns : List NV) (w : World) (hn : ns.length ≤ 9223372036854775807) (hb : b < w.heap.size) (hb' : b' < w.heap.size) (ha : AtNt w b off ns) (ha' : AtNt w b' off' ns) :
    Calls Try.prog 25 #[.slice (some ⟨b, off, none⟩) ns.length c, .slice (some ⟨b', off', none⟩) ns.length c'] w fun e w' => e = .returned (.bool true) ∧ Below w.heap.size w w' := by
  have HA := Lib.hid ha
  have HA' := Lib.hid ha'
  clear ha ha'
  go_enter Try.func25, Try.ntmps25
  go_wp2
  go_loopw [5] (fun i wr => ∃ k : Nat, k ≤ ns.length ∧ i = .int .i64 k ∧ Below w.heap.size w wr) (fun i _ => ns.length - (intOf i).toNat)
  case atStart => exact ⟨0, Nat.zero_le _, rfl, Below.refl _ _⟩
  case round =>
    obtain ⟨k, hk, rfl, hbel⟩ := hrel
    by_cases hlt : k < ns.length
    · obtain ⟨p0, p1⟩ := HA.out.below hbel hb k hlt
      obtain ⟨q0, q1⟩ := HA'.out.below hbel hb' k hlt
      have i1 : (k : Int) < (ns.length : Int) := by omega
      obtain ⟨x, hx⟩ : ∃ x, ns.getD k Z2 = x := ⟨_, rfl⟩
      rw [hx] at p0 p1 q0 q1
      have HB := Lib.hid hbel
      have HE := Lib.hid (fun w => eqNote_same x.1 x.2 w)
      clear hx hbel
      go_wp2_with fail
      go_region_held3 (fun w' => w'.cell? ⟨b, off + k * 2, none⟩ = some (.int .i64 x.1) ∧ w'.cell? ⟨b, off + k * 2 + 1, none⟩ = some (.string x.2) ∧ w'.cell? ⟨b', off' + k * 2, none⟩ = some (.int .i64 x.1) ∧ w'.cell? ⟨b', off' + k * 2 + 1, none⟩ = some (.string x.2)) (go_keep) (first | (go_at_call 64; go_must (go_fit (HE.out _); rintro e w1 ⟨rfl, hb1⟩; have B1 := Lib.hid (below_to HB.out.drew hb1 HB.out.size); have g0 := (hb1.cell (p := ⟨b, off + k * 2, none⟩) (Nat.lt_of_lt_of_le hb HB.out.size)).trans (by simpa using p0); have g1 := (hb1.cell (p := ⟨b, off + k * 2 + 1, none⟩) (Nat.lt_of_lt_of_le hb HB.out.size)).trans (by simpa using p1); have r0 := (hb1.cell (p := ⟨b', off' + k * 2, none⟩) (Nat.lt_of_lt_of_le hb' HB.out.size)).trans (by simpa using q0); have r1 := (hb1.cell (p := ⟨b', off' + k * 2 + 1, none⟩) (Nat.lt_of_lt_of_le hb' HB.out.size)).trans (by simpa using q1); clear hb1)))
      go_wp2_with fail
      go_roundw
      case rel => exact ⟨k + 1, by omega, by go_num, B1.out⟩
      case measure => simp [intOf]; omega
    · go_wp2
      go_ret
      exact ⟨rfl, hbel⟩

def sumN (ns : List NV) : Nat → Nat
  | 0 => 0
  | k + 1 => sumN ns k + (ns.getD k Z2).2.size
theorem sumN_mono (ns : List NV) {k n : Nat} (h : k ≤ n) : sumN ns k ≤ sumN ns n := by
  induction n with
  | zero => rw [show k = 0 by omega]; exact Nat.le_refl _
  | succ n ih =>
    rcases Nat.lt_or_ge n k with h1 | h1
    · rw [show k = n + 1 by omega]; exact Nat.le_refl _
    · have := ih h1
      simp only [sumN]; omega
theorem sumN_get (ns : List NV) {k n : Nat} (h : k < n) : (ns.getD k Z2).2.size ≤ sumN ns n := by
  have := sumN_mono ns (show k + 1 ≤ n by omega)
  simp only [sumN] at this
  omega
/-- What is left of so many places. -/
def szN (ns : List NV) (left : Int) : Int := if (ns.length : Int) + sumN ns ns.length ≤ left then left - ns.length - sumN ns ns.length else -1
theorem szN_t {ns : List NV} {left : Int} (h : (ns.length : Int) + sumN ns ns.length ≤ left) : szN ns left = left - ns.length - sumN ns ns.length := by unfold szN; rw [if_pos h]
theorem szN_f {ns : List NV} {left : Int} (h : ¬ (ns.length : Int) + sumN ns ns.length ≤ left) : szN ns left = -1 := by unfold szN; rw [if_neg h]
set_option maxHeartbeats 400000 in
theorem szNote_any (m : Int) (s : ByteArray) (left : Int) (w : World) (hs : s.size ≤ 9223372036854775807) (h0 : 0 ≤ left ∧ left ≤ 1099511627776) :
    Calls Try.prog 61 #[.agg #[.int .i64 m, .string s], .int .i64 left] w fun e w' => e = .returned (.int .i64 (if (s.size : Int) ≤ left then left - s.size else -1)) ∧ Below w.heap.size w w' := by
  by_cases h : (s.size : Int) ≤ left
  · rw [if_pos h]
    have t0 := dec_f (show ¬ left - (s.size : Int) < 0 by omega)
    go_enter Try.func61, Try.ntmps61
    go_wp2
    go_ret
    exact ⟨rfl, below_new w _⟩
  · rw [if_neg h]
    have t0 := dec_t (show left - (s.size : Int) < 0 by omega)
    go_enter Try.func61, Try.ntmps61
    go_wp2
    go_ret
    exact ⟨rfl, below_new w _⟩
set_option maxHeartbeats 800000 in
theorem szNoteS_any (A : Option Addr) (c : Nat) (ns : List NV) (left : Int) (w : World) (hn : ns.length ≤ 9223372036854775807) (hsz : ∀ k, k < ns.length → (ns.getD k Z2).2.size ≤ 9223372036854775807) (hl : 0 ≤ left ∧ left ≤ 1099511627776) (hr : RdNt w A ns) :
    Calls Try.prog 22 #[.slice A ns.length c, .int .i64 left] w fun e w' => e = .returned (.int .i64 (szN ns left)) ∧ Below w.heap.size w w' := by
  have HR := Lib.hid hr
  have HSZ := Lib.hid hsz
  clear hr hsz
  by_cases h0 : left < (ns.length : Int)
  · have e : szN ns left = -1 := szN_f (by omega)
    rw [e]
    have t0 := dec_t (show left - (ns.length : Int) < 0 by omega)
    clear e
    go_enter Try.func22, Try.ntmps22
    go_wp2
    go_ret
    exact ⟨rfl, Below.refl _ _⟩
  · have t0 := dec_f (show ¬ left - (ns.length : Int) < 0 by omega)
    go_enter Try.func22, Try.ntmps22
    go_wp2_with fail
    go_loopw [1, 5] (fun l i wr => ∃ k : Nat, k ≤ ns.length ∧ i = .int .i64 k ∧ l = .int .i64 (left - ns.length - sumN ns k) ∧ (ns.length : Int) + sumN ns k ≤ left ∧ Below w.heap.size w wr) (fun _ i _ => ns.length - (intOf i).toNat)
    case atStart => exact ⟨0, Nat.zero_le _, rfl, by simp [sumN], by simp [sumN]; omega, Below.refl _ _⟩
    case round =>
      obtain ⟨k, hk, rfl, rfl, hs, hbel⟩ := hrel
      by_cases hlt : k < ns.length
      · obtain ⟨b, off, rfl, hb, hat⟩ := HR.out (by omega)
        obtain ⟨p0, p1⟩ := hat.below hbel hb k hlt
        have hzk := HSZ.out k hlt
        have hsk : sumN ns (k + 1) = sumN ns k + (ns.getD k Z2).2.size := rfl
        have hmn := sumN_mono ns (show k + 1 ≤ ns.length by omega)
        obtain ⟨⟨m, s⟩, hx⟩ : ∃ x, ns.getD k Z2 = x := ⟨_, rfl⟩
        rw [hx] at p0 p1 hzk hsk
        simp only at p0 p1 hzk hsk
        have i1 : (k : Int) < (ns.length : Int) := by omega
        have HB := Lib.hid hbel
        have hsn := fun w => szNote_any m s (left - ns.length - sumN ns k) w hzk (by omega)
        by_cases hle : (s.size : Int) ≤ left - ns.length - sumN ns k
        · rw [if_pos hle] at hsn
          have t1 := dec_f (show ¬ left - (ns.length : Int) - (sumN ns k : Int) - (s.size : Int) < 0 by omega)
          have HSK := Lib.hid hsk
          have HSN := Lib.hid hsn
          clear hsn hat hx hsk hbel hmn
          go_wp2_with fail
          refine (HSN.out _).mono ?_
          rintro e w1 ⟨rfl, hb1⟩
          have B1 := Lib.hid (below_to HB.out hb1 HB.out.size)
          clear hb1
          go_wp2_with fail
          go_roundw
          case rel => exact ⟨k + 1, by omega, by go_num, by rw [HSK.out]; congr 1; omega, by rw [HSK.out]; omega, B1.out⟩
          case measure => simp [intOf]; omega
        · rw [if_neg hle] at hsn
          have e : szN ns left = -1 := szN_f (by omega)
          have HSN := Lib.hid hsn
          have HE := Lib.hid e
          clear hsn hat hx hsk hbel hmn e
          go_wp2_with fail
          refine (HSN.out _).mono ?_
          rintro e w1 ⟨rfl, hb1⟩
          have B1 := Lib.hid (below_to HB.out hb1 HB.out.size)
          clear hb1
          go_wp2_with fail
          go_ret
          exact ⟨ret_int HE.out.symm, B1.out⟩
      · obtain rfl : k = ns.length := by omega
        have e : szN ns left = left - ns.length - sumN ns ns.length := szN_t (by omega)
        have HE := Lib.hid e
        have HB := Lib.hid hbel
        clear e hbel
        go_wp2_with fail
        go_ret
        exact ⟨ret_int HE.out.symm, HB.out⟩
end Go.Proofs.Ytebejpaghajhkaa
