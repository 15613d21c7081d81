/-
  The register of a section (RegisterOf; region 8, of the reference region 6, printed by gen_rg35.py). No condition but lengths that fit.
-/
import Derived.Test.YtebejpaghajhkaaLn29
import Derived.Test.YtebejpaghajhkaaRg34
namespace Go.Proofs.Ytebejpaghajhkaa
open Go.RowKit
set_option linter.unusedVariables false
set_option linter.unusedSimpArgs false

/-- The notes of the first i moves of a section. -/
def ofK (ms : List MV) (ts : List Int) (k : Int) : Nat → List NV
  | 0 => []
  | i + 1 => if (ms.getD i Z2m).1 = k then ofK ms ts k i ++ [(ts.getD i 0, (ms.getD i Z2m).2)] else ofK ms ts k i
theorem ofK_t {ms : List MV} {ts : List Int} {k : Int} {i : Nat} (h : (ms.getD i Z2m).1 = k) : ofK ms ts k (i + 1) = ofK ms ts k i ++ [(ts.getD i 0, (ms.getD i Z2m).2)] := by simp only [ofK]; rw [if_pos h]
theorem ofK_f {ms : List MV} {ts : List Int} {k : Int} {i : Nat} (h : ¬ (ms.getD i Z2m).1 = k) : ofK ms ts k (i + 1) = ofK ms ts k i := by simp only [ofK]; rw [if_neg h]
theorem ofK_len (ms : List MV) (ts : List Int) (k : Int) (i : Nat) : (ofK ms ts k i).length ≤ i := by
  induction i with
  | zero => simp [ofK]
  | succ i ih =>
    simp only [ofK]
    split
    · simp only [List.length_append, List.length_cons, List.length_nil]; omega
    · omega
theorem ofK_sz {ms : List MV} {ts : List Int} {k : Int} (hs : ShortL ms) (i : Nat) (hi : i ≤ ms.length) : ∀ j, j < (ofK ms ts k i).length → ((ofK ms ts k i).getD j Z2).2.size ≤ 8 := by
  induction i with
  | zero => intro j hj; simp [ofK] at hj
  | succ i ih =>
    have h1 := ih (by omega)
    intro j hj
    by_cases e : (ms.getD i Z2m).1 = k
    · rw [ofK_t e] at hj ⊢
      simp only [List.length_append, List.length_cons, List.length_nil] at hj
      by_cases hl : j < (ofK ms ts k i).length
      · rw [getD_snoc hl]; exact h1 j hl
      · obtain rfl : j = (ofK ms ts k i).length := by omega
        rw [getD_snoc_last]; exact hs i (by omega)
    · rw [ofK_f e] at hj ⊢
      exact h1 j hj
theorem ofK_szN {ms : List MV} {ts : List Int} {k : Int} (hs : ShortL ms) (hm : ms.length ≤ 1048576) : SzNt (ofK ms ts k ms.length) :=
  ⟨by have := ofK_len ms ts k ms.length; omega, fun j hj => by have := ofK_sz (ts := ts) (k := k) hs ms.length (Nat.le_refl _) j hj; omega⟩
theorem ofK_lat {ms : List MV} {ts : List Int} {k x : Int} {i : Nat} (hi : i ≤ ts.length) : ofK ms (ts.map (· + x)) k i = lat (ofK ms ts k i) x := by
  induction i with
  | zero => rfl
  | succ i ih =>
    have hg : (ts.map (· + x)).getD i 0 = ts.getD i 0 + x := by simp [List.getD, show i < ts.length by omega]
    by_cases e : (ms.getD i Z2m).1 = k
    · rw [ofK_t e, ofK_t e, ih (by omega), hg]
      simp [lat]
    · rw [ofK_f e, ofK_f e, ih (by omega)]
theorem txK_app {xs : List NV} {x : NV} : ∀ n, n ≤ xs.length → txK (xs ++ [x]) n = txK xs n := by
  intro n
  induction n with
  | zero => intro _; rfl
  | succ n ih =>
    intro hn
    simp only [txK]
    rw [ih (by omega), getD_snoc (by omega)]
theorem txt_snoc (xs : List NV) (x : NV) : txt (xs ++ [x]) = txt xs ++ x.2 := by
  unfold txt
  rw [List.length_append, List.length_cons, List.length_nil]
  simp only [txK]
  rw [txK_app _ (Nat.le_refl _), getD_snoc_last]
theorem txt_of (ms : List MV) (ts : List Int) (k : Int) (i : Nat) : txt (ofK ms ts k i) = ⟨(txM ms k i).toArray⟩ := by
  induction i with
  | zero => rfl
  | succ i ih =>
    by_cases e : (ms.getD i Z2m).1 = k
    · rw [ofK_t e, txt_snoc, ih]
      simp only [txM]
      rw [if_pos e]
      apply ba_inj
      rw [ByteArray.data_append, Array.toList_append]
    · rw [ofK_f e, ih]
      simp only [txM]
      rw [if_neg e, List.append_nil]
/-- What FnRegisterOf asks. -/
theorem of_law {ns : List NV} (h : regB ns = true) : regB (lat ns 10) = lateB ns 10 := by
  by_cases h0 : ns.length = 0
  · obtain rfl := List.eq_nil_of_length_eq_zero h0
    rfl
  · exact (lateB_in h (by omega) ⟨by omega, by omega⟩).symm

set_option maxHeartbeats 800000 in
theorem implRValid_any (A : Option Addr) (c : Nat) (ns : List NV) (w : World) (hs : SzNt ns) (hr : RdNt w A ns) :
    Calls Try.prog 53 #[.slice A ns.length c] w (RetB w (.bool (regB ns))) := by
  have HRO := Lib.hid (registerOf_any A c ns w (by have := hs.1; omega) hs.2 hr)
  generalize regB ns = V at *
  clear hr hs
  go_enter Try.func53, Try.ntmps53
  go_wp2_with fail
  refine HRO.out.mono ?_
  rintro e w1 ⟨R, rfl, hb1, _⟩
  have B1 := Lib.hid hb1
  clear hb1
  go_wp2_with fail
  go_ret
  exact ⟨rfl, B1.out⟩

/-- What RegisterOf leaves. -/
def OfR (w : World) (ns : List NV) : Ending → World → Prop := NewNtB w (if regB ns then ns else []) (regB ns)
theorem ofR_f {w : World} {ns : List NV} (h : regB ns = false) : OfR w ns = NewNtB w [] false := by unfold OfR; rw [h]; rfl
theorem ofR_t {w : World} {ns : List NV} (h : regB ns = true) : OfR w ns = NewNtB w ns true := by unfold OfR; rw [h]; rfl
set_option maxHeartbeats 3200000 in
theorem specOf_ne (a cm n ct : Nat) (A : Option Addr) (ms : List MV) (k : Int) (w : World) (hm : ms.length ≤ 1048576) (hn : n ≤ 1048576) (hne : n ≠ ms.length) :
    Calls Try.prog 17 #[.slice (some ⟨a, 0, none⟩) ms.length cm, .slice A n ct, .int .i64 k] w (NewNtB w [] false) := by
  have t1 := bne_t (show (n : Int) ≠ (ms.length : Int) by omega)
  have t2 := beq_f (show (n : Int) ≠ (ms.length : Int) by omega)
  have t1n : (n != ms.length) = true := by simpa using hne
  have t2n : (n == ms.length) = false := by simpa using hne
  have O0 := Lib.hid (ownNm_empty w w.heap.size (Nat.le_refl _))
  have B0 := Lib.hid (below_new w (.cells #[] 48))
  clear hne
  go_enter Try.func17, Try.ntmps17
  go_wp2_with fail
  generalize w.alloc (.cells #[] 48) = W1 at *
  go_loopw [8, 9] (fun o i wr => o = .slice (some ⟨w.heap.size, 0, none⟩) 0 0 ∧ i = .int .i64 0 ∧ W1 = wr) (fun _ _ _ => 0)
  case atStart => exact ⟨rfl, rfl, rfl⟩
  case round =>
    obtain ⟨rfl, rfl, rfl⟩ := hrel
    by_cases h0 : 0 < ms.length
    · have t0 := dec_t (show (0 : Int) < (ms.length : Int) by omega)
      have t0n := dec_t h0
      clear h0
      go_wp2_with fail
      go_ret2
      exact ⟨_, 0, rfl, ownNm_empty _ w.heap.size B0.out.size, below_new' B0.out _⟩
    · have t0 := dec_f (show ¬ (0 : Int) < (ms.length : Int) by omega)
      have t0n := dec_f h0
      clear h0
      go_wp2_with fail
      go_ret2
      exact ⟨_, 0, rfl, ownNm_empty _ w.heap.size B0.out.size, below_new' B0.out _⟩
set_option maxHeartbeats 3200000 in
theorem specOf_any (a cm b ct : Nat) (ms : List MV) (ts : List Int) (k : Int) (w : World) (hm : ms.length ≤ 1048576) (htl : ts.length = ms.length) (hs : ShortL ms) (ha : a < w.heap.size) (hb : b < w.heap.size) (hA : AtMv w a 0 ms) (hB : AtInts w b 0 ts) :
    Calls Try.prog 17 #[.slice (some ⟨a, 0, none⟩) ms.length cm, .slice (some ⟨b, 0, none⟩) ts.length ct, .int .i64 k] w (OfR w (ofK ms ts k ms.length)) := by
  have HSZ := Lib.hid (ofK_szN (ts := ts) (k := k) hs hm)
  rw [htl]
  have HTL := Lib.hid htl
  have HA := Lib.hid hA
  have HB' := Lib.hid hB
  have t1 := bne_f (show (ms.length : Int) = (ms.length : Int) from rfl)
  have t2 := beq_t (show (ms.length : Int) = (ms.length : Int) from rfl)
  have O0 := Lib.hid (ownNm_empty w w.heap.size (Nat.le_refl _))
  have B0 := Lib.hid (below_new w (.cells #[] 48))
  obtain ⟨P, hP⟩ : ∃ P, OfR w (ofK ms ts k ms.length) = P := ⟨_, rfl⟩
  rw [hP]
  have HP := Lib.hid hP
  clear hP htl hA hB hs
  go_enter Try.func17, Try.ntmps17
  go_wp2_with fail
  generalize w.alloc (.cells #[] 48) = W1 at *
  go_loopw [8, 9] (fun o iq wr => ∃ i g c : Nat, i ≤ ms.length ∧ iq = .int .i64 i ∧ o = .slice (some ⟨g, 0, none⟩) (ofK ms ts k i).length c ∧ OwnN wr w.heap.size g c (ofK ms ts k i) ∧ Below w.heap.size w wr) (fun _ q _ => ms.length - (intOf q).toNat)
  case atStart => exact ⟨0, _, 0, by omega, rfl, rfl, O0.out.own, B0.out⟩
  case round =>
    clear O0 B0
    obtain ⟨i, g, c, hi, rfl, rfl, hown, hbel⟩ := hrel
    have HO := Lib.hid hown
    have HB := Lib.hid hbel
    clear hown hbel
    by_cases hlt : i < ms.length
    · have t0 := dec_t (show (i : Int) < (ms.length : Int) by omega)
      have i1 : (i : Int) < (ms.length : Int) := by omega
      have hi1 : i + 1 ≤ ms.length := hlt
      obtain ⟨p0, p1⟩ := HA.out.below HB.out ha i hlt
      have q0 := HB'.out.below HB.out hb i (by rw [HTL.out]; exact hlt)
      simp only [Nat.zero_add] at p0 p1 q0
      have hX := ofK_len ms ts k i
      have ht := ofK_t (ms := ms) (ts := ts) (k := k) (i := i)
      have hf := ofK_f (ms := ms) (ts := ts) (k := k) (i := i)
      obtain ⟨⟨n, s⟩, hms⟩ : ∃ y, ms.getD i Z2m = y := ⟨_, rfl⟩
      obtain ⟨t, htt⟩ : ∃ y, ts.getD i 0 = y := ⟨_, rfl⟩
      rw [hms] at p0 p1 ht hf
      rw [htt] at q0 ht
      simp only at p0 p1 ht hf
      obtain ⟨X, hXX⟩ : ∃ X, ofK ms ts k i = X := ⟨_, rfl⟩
      rw [hXX] at hX ht hf HO
      rw [hXX]
      by_cases hn : n = k
      · have HSN := Lib.hid (ht hn)
        have u1 := beq_t hn
        have GA : Hid (a < wr.heap.size ∧ a ≠ g) := Lib.hid ⟨Nat.lt_of_lt_of_le ha HB.out.size, by have := OwnV.le HO.out; omega⟩
        have GB : Hid (b < wr.heap.size ∧ b ≠ g) := Lib.hid ⟨Nat.lt_of_lt_of_le hb HB.out.size, by have := OwnV.le HO.out; omega⟩
        have AT : Hid (AtNt (wr.drew.alloc (.cells #[.int .i64 t, .string s] 48)) wr.heap.size 0 [(t, s)]) := Lib.hid (atNt_one wr.drew t s)
        have OA : Hid (OwnNm (wr.drew.alloc (.cells #[.int .i64 t, .string s] 48)) w.heap.size g c X.length X) := Lib.hid (OwnV.alloc (w := wr.drew) HO.out _)
        have BA := Lib.hid ((Below.refl wr.heap.size wr).drew.alloc (Nat.le_refl _) (.cells #[.int .i64 t, .string s] 48))
        have QQ := Lib.hid (And.intro ((BA.out.cell (p := ⟨b, i, none⟩) GB.out.1).trans q0) ((BA.out.cell (p := ⟨a, i * 2 + 1, none⟩) GA.out.1).trans p1))
        clear hms htt hXX ht hf hlt hn
        go_upto_region 6 with fail
        --@GENB
        refine wp_region_held_drew (S := (fun w' => w'.cell? ⟨b, i, none⟩ = some (.int .i64 t) ∧ w'.cell? ⟨a, i * 2 + 1, none⟩ = some (.string s))) (by kernel_rfl) ?_ (fun hHeld0 => ?_)
        · exact ⟨q0, p1⟩
        refine wpAnyH_take (i := 0) (v := ?_) rfl (by kernel_rfl) (by kernel_rfl) (by kernel_rfl) (fun _ _ _ h => h) (Or.inl ⟨by rfl, ?_⟩) hHeld0 ?_
        rotate_left 1
        · intro w hSw
          try dsimp only at hSw
          go_simp
          first | done | with_reducible rfl
        try simp only [Act.put, List.setIfInBounds_toArray, List.set_cons_zero, List.set_cons_succ]
        refine wpAnyH_take (i := 1) (v := ?_) rfl (by kernel_rfl) (by kernel_rfl) (by kernel_rfl) (fun _ _ _ h => h) (Or.inl ⟨by rfl, ?_⟩) hHeld0 ?_
        rotate_left 1
        · intro w hSw
          try dsimp only at hSw
          go_simp
          first | done | with_reducible rfl
        try simp only [Act.put, List.setIfInBounds_toArray, List.set_cons_zero, List.set_cons_succ]
        refine wpAnyH_take (i := 2) (v := ?_) rfl (by kernel_rfl) (by kernel_rfl) (by kernel_rfl) (fun _ _ _ h => h) (Or.inl ⟨by rfl, ?_⟩) hHeld0 ?_
        rotate_left 1
        · intro w hSw
          try dsimp only at hSw
          go_simp
          first | done | with_reducible rfl
        try simp only [Act.put, List.setIfInBounds_toArray, List.set_cons_zero, List.set_cons_succ]
        refine wpAnyH_take (i := 3) (v := ?_) rfl (by kernel_rfl) (by kernel_rfl) (by kernel_rfl) (fun _ _ _ h => h) (Or.inl ⟨by rfl, ?_⟩) hHeld0 ?_
        rotate_left 1
        · intro w hSw
          try dsimp only at hSw
          go_simp
          first | done | with_reducible rfl
        try simp only [Act.put, List.setIfInBounds_toArray, List.set_cons_zero, List.set_cons_succ]
        refine wpAnyH_take (i := 4) (v := ?_) rfl (by kernel_rfl) (by kernel_rfl) (by kernel_rfl) (fun _ _ _ h => h) (Or.inl ⟨by rfl, ?_⟩) hHeld0 ?_
        rotate_left 1
        · intro w hSw
          try dsimp only at hSw
          go_simp
          first | done | with_reducible rfl
        try simp only [Act.put, List.setIfInBounds_toArray, List.set_cons_zero, List.set_cons_succ]
        refine wpAnyH_take (i := 5) (v := ?_) rfl (by kernel_rfl) (by kernel_rfl) (by kernel_rfl) (fun _ _ _ h => h) (Or.inl ⟨by rfl, ?_⟩) hHeld0 ?_
        rotate_left 1
        · intro w hSw
          try dsimp only at hSw
          go_simp
          first | done | with_reducible rfl
        try simp only [Act.put, List.setIfInBounds_toArray, List.set_cons_zero, List.set_cons_succ]
        refine wpAnyH_take (i := 6) (v := ?_) rfl (by kernel_rfl) (by kernel_rfl) (by kernel_rfl) (fun _ _ _ h => h) (Or.inl ⟨by rfl, ?_⟩) hHeld0 ?_
        rotate_left 1
        · intro w hSw
          try dsimp only at hSw
          go_simp
          first | done | with_reducible rfl
        try simp only [Act.put, List.setIfInBounds_toArray, List.set_cons_zero, List.set_cons_succ]
        refine wpAnyH_take (i := 7) (v := ?_) rfl (by kernel_rfl) (by kernel_rfl) (by kernel_rfl) (fun _ _ _ h => h) (Or.inl ⟨by rfl, ?_⟩) hHeld0 ?_
        rotate_left 1
        · intro w hSw
          try dsimp only at hSw
          go_simp
          first | done | with_reducible rfl
        try simp only [Act.put, List.setIfInBounds_toArray, List.set_cons_zero, List.set_cons_succ]
        refine wpAnyH_take (i := 8) (v := ?_) rfl (by kernel_rfl) (by kernel_rfl) (by kernel_rfl) (fun _ _ _ h => h) (Or.inl ⟨by rfl, ?_⟩) hHeld0 ?_
        rotate_left 1
        · intro w hSw
          try dsimp only at hSw
          go_simp
          first | done | with_reducible rfl
        try simp only [Act.put, List.setIfInBounds_toArray, List.set_cons_zero, List.set_cons_succ]
        refine wpAnyH_take (i := 9) (v := ?_) rfl (by kernel_rfl) (by kernel_rfl) (by kernel_rfl) (fun _ _ _ h => h) (Or.inl ⟨by rfl, ?_⟩) hHeld0 ?_
        rotate_left 1
        · intro w hSw
          try dsimp only at hSw
          go_simp
          first | done | with_reducible rfl
        try simp only [Act.put, List.setIfInBounds_toArray, List.set_cons_zero, List.set_cons_succ]
        refine wpAnyH_take (i := 10) (v := ?_) rfl (by kernel_rfl) (by kernel_rfl) (by kernel_rfl) (fun _ _ _ h => h) (Or.inl ⟨by rfl, ?_⟩) hHeld0 ?_
        rotate_left 1
        · intro w hSw
          try dsimp only at hSw
          go_simp
          first | done | with_reducible rfl
        try simp only [Act.put, List.setIfInBounds_toArray, List.set_cons_zero, List.set_cons_succ]
        refine wpAnyH_ready (rs := [11]) (by kernel_rfl) (by simp) ?_
        refine AllReadyH.cons rfl (fun K hK => ?_) AllReadyH.nil
        go_simp
        refine hK.out _ _ ?_ (fun hHeld1 => ?_)
        · exact QQ.out
        clear hK K hHeld0
        try simp only [Act.put, List.setIfInBounds_toArray, List.set_cons_zero, List.set_cons_succ]
        refine wpAnyH_ready (rs := [12]) (by kernel_rfl) (by simp) ?_
        refine AllReadyH.cons rfl (fun K hK => ?_) AllReadyH.nil
        refine step_appN (ys := [(t, s)]) rfl (.tmp 31) (.tmp 42) rfl _ (by simp [Act.eval, Act.put]; try rfl) OA.out (by simp [Act.eval, Act.put]; try rfl) rfl AT.out (by simp; omega) ?_
        intro g9 c9 w9 hown9 hg9 hat9
        have O9 : Hid (OwnN w9 w.heap.size g9 c9 (ofK ms ts k (i + 1))) := Lib.hid (by rw [HSN.out]; exact hown9.own)
        have G9 := Lib.hid hg9
        have QA : Hid (w9.heap[a]? = (wr.drew.alloc (.cells #[.int .i64 t, .string s] 48)).heap[a]?) := Lib.hid (hg9.block a (by have := GA.out.1; simp; omega) (by intro e; injection e; exact GA.out.2 (by assumption)))
        have QB : Hid (w9.heap[b]? = (wr.drew.alloc (.cells #[.int .i64 t, .string s] 48)).heap[b]?) := Lib.hid (hg9.block b (by have := GB.out.1; simp; omega) (by intro e; injection e; exact GB.out.2 (by assumption)))
        clear hown9 hg9 hat9
        refine hK.out _ _ ?_ (fun hHeld2 => ?_)
        · refine ⟨?_, ?_⟩
          · simp only [World.cell?, QB.out]; exact QQ.out.1
          · simp only [World.cell?, QA.out]; exact QQ.out.2
        clear hK K hHeld1
        try simp only [Act.put, List.setIfInBounds_toArray, List.set_cons_zero, List.set_cons_succ]
        refine wpAnyH_take (i := 13) (v := ?_) rfl (by kernel_rfl) (by kernel_rfl) (by kernel_rfl) (fun _ _ _ h => h) (Or.inl ⟨by rfl, ?_⟩) hHeld2 ?_
        rotate_left 1
        · intro w hSw
          try dsimp only at hSw
          go_simp
          first | done | with_reducible rfl
        try simp only [Act.put, List.setIfInBounds_toArray, List.set_cons_zero, List.set_cons_succ]
        refine wpAnyH_done (by kernel_rfl) ?_ _
        --@GENBX
        have B9 : Hid (Below w.heap.size w w9) := Lib.hid (HB.out.drew.alloc HB.out.size _ |>.grown G9.out (by have := HB.out.size; simp; omega) (by rintro g' ⟨⟩; exact OwnV.le HO.out))
        go_wp2_with fail
        go_roundw
        case rel => exact ⟨i + 1, g9, c9, hi1, by go_num, by rw [HSN.out]; simp, O9.out, B9.out⟩
        case measure => simp [intOf]; omega
      · have HSN := Lib.hid (hf hn)
        have u1 := beq_f hn
        clear hms htt hXX ht hf hlt hn
        go_wp2_with fail
        go_roundw
        case rel => exact ⟨i + 1, g, c, hi1, by go_num, by rw [HSN.out], by rw [HSN.out]; exact HO.out, HB.out⟩
        case measure => simp [intOf]; omega
    · obtain rfl : i = ms.length := by omega
      have t0 := dec_f (show ¬ (ms.length : Int) < (ms.length : Int) by omega)
      have HVL := Lib.hid (specRValid_any (some ⟨g, 0, none⟩) c (ofK ms ts k ms.length) wr (by have := HSZ.out.1; omega) HSZ.out.2 (fun _ => ⟨g, 0, rfl, HO.out.lt, HO.out.at⟩))
      cases hw : regB (ofK ms ts k ms.length) with
      | true =>
        have hP : P = NewNtB w (ofK ms ts k ms.length) true := by rw [← HP.out]; exact ofR_t hw
        rw [hw] at HVL
        clear HP
        subst hP
        generalize ofK ms ts k ms.length = N at *
        clear hw hlt
        go_wp2_with fail
        refine HVL.out.mono ?_
        rintro e w2 ⟨rfl, rfl⟩
        go_wp2_with fail
        go_ret2
        exact ⟨g, c, rfl, HO.out, HB.out⟩
      | false =>
        have hP : P = NewNtB w [] false := by rw [← HP.out]; exact ofR_f hw
        rw [hw] at HVL
        clear HP
        subst hP
        generalize ofK ms ts k ms.length = N at *
        clear hw hlt
        go_wp2_with fail
        refine HVL.out.mono ?_
        rintro e w2 ⟨rfl, rfl⟩
        go_wp2_with fail
        go_ret2
        exact ⟨wr.heap.size, 0, rfl, ownNm_empty wr w.heap.size HB.out.size, below_new' HB.out _⟩

set_option maxHeartbeats 800000 in
theorem implOf_ne (a cm n ct : Nat) (A : Option Addr) (ms : List MV) (k : Int) (w : World) (hm : ms.length ≤ 1048576) (hn : n ≤ 1048576) (hne : n ≠ ms.length) :
    Calls Try.prog 16 #[.slice (some ⟨a, 0, none⟩) ms.length cm, .slice A n ct, .int .i64 k] w (NewNtB w [] false) := by
  have t1 := bne_t (show (n : Int) ≠ (ms.length : Int) by omega)
  have t1n : (n != ms.length) = true := by simpa using hne
  clear hne
  go_enter Try.func16, Try.ntmps16
  go_wp2_with fail
  go_ret2
  exact ⟨_, 0, rfl, ownNm_empty _ w.heap.size (Nat.le_refl _), below_new _ _⟩
set_option maxHeartbeats 3200000 in
theorem implOf_any (a cm b ct : Nat) (ms : List MV) (ts : List Int) (k : Int) (w : World) (hm : ms.length ≤ 1048576) (htl : ts.length = ms.length) (hs : ShortL ms) (ha : a < w.heap.size) (hb : b < w.heap.size) (hA : AtMv w a 0 ms) (hB : AtInts w b 0 ts) :
    Calls Try.prog 16 #[.slice (some ⟨a, 0, none⟩) ms.length cm, .slice (some ⟨b, 0, none⟩) ts.length ct, .int .i64 k] w (OfR w (ofK ms ts k ms.length)) := by
  have HSZ := Lib.hid (ofK_szN (ts := ts) (k := k) hs hm)
  rw [htl]
  have HTL := Lib.hid htl
  have HA := Lib.hid hA
  have HB' := Lib.hid hB
  have t1 := bne_f (show (ms.length : Int) = (ms.length : Int) from rfl)
  have O0 := Lib.hid (ownNm_empty w w.heap.size (Nat.le_refl _))
  have B0 := Lib.hid (below_new w (.cells #[] 48))
  obtain ⟨P, hP⟩ : ∃ P, OfR w (ofK ms ts k ms.length) = P := ⟨_, rfl⟩
  rw [hP]
  have HP := Lib.hid hP
  clear hP htl hA hB hs
  go_enter Try.func16, Try.ntmps16
  go_wp2_with fail
  generalize w.alloc (.cells #[] 48) = W1 at *
  go_loopw [8, 20] (fun o iq wr => ∃ i g c : Nat, i ≤ ms.length ∧ iq = .int .i64 i ∧ o = .slice (some ⟨g, 0, none⟩) (ofK ms ts k i).length c ∧ OwnN wr w.heap.size g c (ofK ms ts k i) ∧ Below w.heap.size w wr) (fun _ q _ => ms.length - (intOf q).toNat)
  case atStart => exact ⟨0, _, 0, by omega, rfl, rfl, O0.out.own, B0.out⟩
  case round =>
    clear O0 B0
    obtain ⟨i, g, c, hi, rfl, rfl, hown, hbel⟩ := hrel
    have HO := Lib.hid hown
    have HB := Lib.hid hbel
    clear hown hbel
    by_cases hlt : i < ms.length
    · have t0 := dec_t (show (i : Int) < (ms.length : Int) by omega)
      have i1 : (i : Int) < (ms.length : Int) := by omega
      have hi1 : i + 1 ≤ ms.length := hlt
      obtain ⟨p0, p1⟩ := HA.out.below HB.out ha i hlt
      simp only [Nat.zero_add] at p0 p1
      have hX := ofK_len ms ts k i
      have ht := ofK_t (ms := ms) (ts := ts) (k := k) (i := i)
      have hf := ofK_f (ms := ms) (ts := ts) (k := k) (i := i)
      have hqq := fun W h => (HB'.out.below (w' := W) h hb) i (by rw [HTL.out]; exact hlt)
      obtain ⟨⟨n, s⟩, hms⟩ : ∃ y, ms.getD i Z2m = y := ⟨_, rfl⟩
      obtain ⟨t, htt⟩ : ∃ y, ts.getD i 0 = y := ⟨_, rfl⟩
      rw [hms] at p0 p1 ht hf
      rw [htt] at ht
      simp only [htt, Nat.zero_add] at hqq
      simp only at p0 p1 ht hf
      obtain ⟨X, hXX⟩ : ∃ X, ofK ms ts k i = X := ⟨_, rfl⟩
      rw [hXX] at hX ht hf HO
      rw [hXX]
      have HQ := Lib.hid hqq
      have HB2 := Lib.hid (below_new' HB.out (.cells #[.int .i64 n, .string s] 74))
      have HO2 : Hid (OwnN (wr.alloc (.cells #[.int .i64 n, .string s] 74)) w.heap.size g c X) := Lib.hid (OwnV.alloc HO.out _)
      have K2 := Lib.hid (Blk.new wr 74 #[.int .i64 n, .string s])
      have NQ : Hid (wr.heap.size ≠ g) := Lib.hid (by have := HO.out.lt; omega)
      by_cases hn : n = k
      · have HSN := Lib.hid (ht hn)
        have u1 := beq_t hn
        clear hms htt hXX ht hf hlt hn hqq HO HB
        go_upto_region 7 with fail
        clear p0 p1
        generalize wr.alloc (.cells #[.int .i64 n, .string s] 74) = W2 at *
        generalize wr.heap.size = Q at *
        obtain ⟨y0, y1, _, _⟩ := blkCells2 K2.out
        have q0 := HQ.out W2 HB2.out
        have GA : Hid (Q < W2.heap.size ∧ Q ≠ g) := Lib.hid ⟨K2.out.lt, NQ.out⟩
        have GB : Hid (b < W2.heap.size ∧ b ≠ g) := Lib.hid ⟨Nat.lt_of_lt_of_le hb HB2.out.size, by have := OwnV.le HO2.out; omega⟩
        have AT : Hid (AtNt (W2.drew.alloc (.cells #[.int .i64 t, .string s] 48)) W2.heap.size 0 [(t, s)]) := Lib.hid (atNt_one W2.drew t s)
        have OA : Hid (OwnNm (W2.drew.alloc (.cells #[.int .i64 t, .string s] 48)) w.heap.size g c X.length X) := Lib.hid (OwnV.alloc (w := W2.drew) HO2.out _)
        have BA := Lib.hid ((Below.refl W2.heap.size W2).drew.alloc (Nat.le_refl _) (.cells #[.int .i64 t, .string s] 48))
        have QQ := Lib.hid (And.intro ((BA.out.cell (p := ⟨b, i, none⟩) GB.out.1).trans q0) ((BA.out.cell (p := ⟨Q, 1, none⟩) GA.out.1).trans y1))
        go_upto_region 8 with fail
        --@GENA
        refine wp_region_held_drew (S := (fun w' => w'.cell? ⟨b, i, none⟩ = some (.int .i64 t) ∧ w'.cell? ⟨Q, 1, none⟩ = some (.string s))) (by kernel_rfl) ?_ (fun hHeld0 => ?_)
        · exact ⟨q0, y1⟩
        refine wpAnyH_take (i := 0) (v := ?_) rfl (by kernel_rfl) (by kernel_rfl) (by kernel_rfl) (fun _ _ _ h => h) (Or.inl ⟨by rfl, ?_⟩) hHeld0 ?_
        rotate_left 1
        · intro w hSw
          try dsimp only at hSw
          go_simp
          first | done | with_reducible rfl
        try simp only [Act.put, List.setIfInBounds_toArray, List.set_cons_zero, List.set_cons_succ]
        refine wpAnyH_take (i := 1) (v := ?_) rfl (by kernel_rfl) (by kernel_rfl) (by kernel_rfl) (fun _ _ _ h => h) (Or.inl ⟨by rfl, ?_⟩) hHeld0 ?_
        rotate_left 1
        · intro w hSw
          try dsimp only at hSw
          go_simp
          first | done | with_reducible rfl
        try simp only [Act.put, List.setIfInBounds_toArray, List.set_cons_zero, List.set_cons_succ]
        refine wpAnyH_take (i := 2) (v := ?_) rfl (by kernel_rfl) (by kernel_rfl) (by kernel_rfl) (fun _ _ _ h => h) (Or.inl ⟨by rfl, ?_⟩) hHeld0 ?_
        rotate_left 1
        · intro w hSw
          try dsimp only at hSw
          go_simp
          first | done | with_reducible rfl
        try simp only [Act.put, List.setIfInBounds_toArray, List.set_cons_zero, List.set_cons_succ]
        refine wpAnyH_take (i := 3) (v := ?_) rfl (by kernel_rfl) (by kernel_rfl) (by kernel_rfl) (fun _ _ _ h => h) (Or.inl ⟨by rfl, ?_⟩) hHeld0 ?_
        rotate_left 1
        · intro w hSw
          try dsimp only at hSw
          go_simp
          first | done | with_reducible rfl
        try simp only [Act.put, List.setIfInBounds_toArray, List.set_cons_zero, List.set_cons_succ]
        refine wpAnyH_take (i := 4) (v := ?_) rfl (by kernel_rfl) (by kernel_rfl) (by kernel_rfl) (fun _ _ _ h => h) (Or.inl ⟨by rfl, ?_⟩) hHeld0 ?_
        rotate_left 1
        · intro w hSw
          try dsimp only at hSw
          go_simp
          first | done | with_reducible rfl
        try simp only [Act.put, List.setIfInBounds_toArray, List.set_cons_zero, List.set_cons_succ]
        refine wpAnyH_take (i := 5) (v := ?_) rfl (by kernel_rfl) (by kernel_rfl) (by kernel_rfl) (fun _ _ _ h => h) (Or.inl ⟨by rfl, ?_⟩) hHeld0 ?_
        rotate_left 1
        · intro w hSw
          try dsimp only at hSw
          go_simp
          first | done | with_reducible rfl
        try simp only [Act.put, List.setIfInBounds_toArray, List.set_cons_zero, List.set_cons_succ]
        refine wpAnyH_take (i := 6) (v := ?_) rfl (by kernel_rfl) (by kernel_rfl) (by kernel_rfl) (fun _ _ _ h => h) (Or.inl ⟨by rfl, ?_⟩) hHeld0 ?_
        rotate_left 1
        · intro w hSw
          try dsimp only at hSw
          go_simp
          first | done | with_reducible rfl
        try simp only [Act.put, List.setIfInBounds_toArray, List.set_cons_zero, List.set_cons_succ]
        refine wpAnyH_take (i := 7) (v := ?_) rfl (by kernel_rfl) (by kernel_rfl) (by kernel_rfl) (fun _ _ _ h => h) (Or.inl ⟨by rfl, ?_⟩) hHeld0 ?_
        rotate_left 1
        · intro w hSw
          try dsimp only at hSw
          go_simp
          first | done | with_reducible rfl
        try simp only [Act.put, List.setIfInBounds_toArray, List.set_cons_zero, List.set_cons_succ]
        refine wpAnyH_ready (rs := [8]) (by kernel_rfl) (by simp) ?_
        refine AllReadyH.cons rfl (fun K hK => ?_) AllReadyH.nil
        go_simp
        refine hK.out _ _ ?_ (fun hHeld1 => ?_)
        · exact QQ.out
        clear hK K hHeld0
        try simp only [Act.put, List.setIfInBounds_toArray, List.set_cons_zero, List.set_cons_succ]
        refine wpAnyH_ready (rs := [9]) (by kernel_rfl) (by simp) ?_
        refine AllReadyH.cons rfl (fun K hK => ?_) AllReadyH.nil
        refine step_appN (ys := [(t, s)]) rfl (.tmp 29) (.tmp 37) rfl _ (by simp [Act.eval, Act.put]; try rfl) OA.out (by simp [Act.eval, Act.put]; try rfl) rfl AT.out (by simp; omega) ?_
        intro g9 c9 w9 hown9 hg9 hat9
        have O9 : Hid (OwnN w9 w.heap.size g9 c9 (ofK ms ts k (i + 1))) := Lib.hid (by rw [HSN.out]; exact hown9.own)
        have G9 := Lib.hid hg9
        have QA : Hid (w9.heap[Q]? = (W2.drew.alloc (.cells #[.int .i64 t, .string s] 48)).heap[Q]?) := Lib.hid (hg9.block Q (by have := GA.out.1; simp; omega) (by intro e; injection e; exact GA.out.2 (by assumption)))
        have QB : Hid (w9.heap[b]? = (W2.drew.alloc (.cells #[.int .i64 t, .string s] 48)).heap[b]?) := Lib.hid (hg9.block b (by have := GB.out.1; simp; omega) (by intro e; injection e; exact GB.out.2 (by assumption)))
        clear hown9 hg9 hat9
        refine hK.out _ _ ?_ (fun hHeld2 => ?_)
        · refine ⟨?_, ?_⟩
          · simp only [World.cell?, QB.out]; exact QQ.out.1
          · simp only [World.cell?, QA.out]; exact QQ.out.2
        clear hK K hHeld1
        try simp only [Act.put, List.setIfInBounds_toArray, List.set_cons_zero, List.set_cons_succ]
        refine wpAnyH_take (i := 10) (v := ?_) rfl (by kernel_rfl) (by kernel_rfl) (by kernel_rfl) (fun _ _ _ h => h) (Or.inl ⟨by rfl, ?_⟩) hHeld2 ?_
        rotate_left 1
        · intro w hSw
          try dsimp only at hSw
          go_simp
          first | done | with_reducible rfl
        try simp only [Act.put, List.setIfInBounds_toArray, List.set_cons_zero, List.set_cons_succ]
        refine wpAnyH_done (by kernel_rfl) ?_ _
        --@GENAX
        have B9 : Hid (Below w.heap.size w w9) := Lib.hid (HB2.out.drew.alloc HB2.out.size _ |>.grown G9.out (by have := HB2.out.size; simp; omega) (by rintro g' ⟨⟩; exact OwnV.le HO2.out))
        go_wp2_with fail
        go_roundw
        case rel => exact ⟨i + 1, g9, c9, hi1, by go_num, by rw [HSN.out]; simp, O9.out, B9.out⟩
        case measure => simp [intOf]; omega
      · have HSN := Lib.hid (hf hn)
        have u1 := beq_f hn
        clear hms htt hXX ht hf hlt hn hqq HO HB
        go_upto_region 7 with fail
        clear p0 p1
        generalize wr.alloc (.cells #[.int .i64 n, .string s] 74) = W2 at *
        generalize wr.heap.size = Q at *
        obtain ⟨y0, y1, _, _⟩ := blkCells2 K2.out
        go_wp2_with fail
        go_roundw
        case rel => exact ⟨i + 1, g, c, hi1, by go_num, by rw [HSN.out], by rw [HSN.out]; exact HO2.out, HB2.out⟩
        case measure => simp [intOf]; omega
    · obtain rfl : i = ms.length := by omega
      have t0 := dec_f (show ¬ (ms.length : Int) < (ms.length : Int) by omega)
      have HVL := Lib.hid (implRValid_any (some ⟨g, 0, none⟩) c (ofK ms ts k ms.length) wr HSZ.out (fun _ => ⟨g, 0, rfl, HO.out.lt, HO.out.at⟩))
      cases hw : regB (ofK ms ts k ms.length) with
      | true =>
        have hP : P = NewNtB w (ofK ms ts k ms.length) true := by rw [← HP.out]; exact ofR_t hw
        rw [hw] at HVL
        clear HP
        subst hP
        generalize ofK ms ts k ms.length = N at *
        clear hw hlt
        go_wp2_with fail
        refine HVL.out.mono ?_
        rintro e w2 ⟨rfl, hb2⟩
        have O2 := Lib.hid (HO.out.below hb2 HO.out.lt)
        have B2 := Lib.hid (below_to HB.out hb2 HB.out.size)
        clear hb2
        go_wp2_with fail
        go_ret2
        exact ⟨g, c, rfl, O2.out, B2.out⟩
      | false =>
        have hP : P = NewNtB w [] false := by rw [← HP.out]; exact ofR_f hw
        rw [hw] at HVL
        clear HP
        subst hP
        generalize ofK ms ts k ms.length = N at *
        clear hw hlt
        go_wp2_with fail
        refine HVL.out.mono ?_
        rintro e w2 ⟨rfl, hb2⟩
        have B2 := Lib.hid (below_to HB.out hb2 HB.out.size)
        clear hb2
        go_wp2_with fail
        go_ret2
        exact ⟨w2.heap.size, 0, rfl, ownNm_empty w2 w.heap.size B2.out.size, below_new' B2.out _⟩
end Go.Proofs.Ytebejpaghajhkaa
