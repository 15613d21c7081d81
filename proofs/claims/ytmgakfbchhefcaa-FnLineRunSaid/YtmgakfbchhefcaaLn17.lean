/-
  Lines: sameLine of the laws, and the law FnLineNew. No condition.
-/
import Derived.Test.YtmgakfbchhefcaaLn16
import Derived.Test.YtmgakfbchhefcaaHelp
import Derived.Test.YtmgakfbchhefcaaDrawL
namespace Go.Proofs.Ytmgakfbchhefcaa
open Go.RowKit
set_option linter.unusedVariables false
set_option linter.unusedSimpArgs false

theorem sameInts_q (b c b' c' : Nat) (xs : List Int) (w : World) (hn : xs.length ≤ 9223372036854775807) (ha : AtInts w b 0 xs) (hb : AtInts w b' 0 xs) :
    Calls Try.prog 63 #[.slice (some ⟨b, 0, none⟩) xs.length c, .slice (some ⟨b', 0, none⟩) xs.length c'] w fun e w' => e = .returned (.bool true) ∧ ∃ n, w' = w.drewN n :=
  (sameInts_any b 0 c b' 0 c' xs xs w hn hn ha hb).mono fun e w' ⟨h, h'⟩ => ⟨by rw [h]; simp, h'⟩
theorem sameInts_nil (w : World) : Calls Try.prog 63 #[.slice none 0 0, .slice none 0 0] w fun e w' => e = .returned (.bool true) ∧ w = w' := by
  go_enter Try.func63, Try.ntmps63
  go_wp2_with fail
  go_loop [5] (fun q => q = .int .i64 0) (fun q => 0)
  case atStart => rfl
  case round =>
    subst hrel
    go_wp2_with fail
    go_ret
    exact ⟨rfl, rfl⟩
set_option maxHeartbeats 800000 in
theorem sameLine_nil (w : World) : Calls Try.prog 26 #[.agg #[.slice none 0 0, .slice none 0 0], .agg #[.slice none 0 0, .slice none 0 0]] w fun e w' => e = .returned (.bool true) ∧ Below w.heap.size w w' := by
  have HSI := Lib.hid (fun w => sameInts_nil w)
  go_enter Try.func26, Try.ntmps26
  go_wp2_with (go_at_call 63; go_must (go_fit (HSI.out _); rintro e w2 ⟨rfl, rfl⟩))
  go_loop [5] (fun q => q = .int .i64 0) (fun q => 0)
  case atStart => rfl
  case round =>
    subst hrel
    go_wp2_with fail
    go_ret
    exact ⟨rfl, below_new' (below_new w _) _⟩
theorem two_lines {b c t d b' c' t' d' : Nat} {bs bs' : List BV} {ts ts' : List Int} {w : World} (hb : b < w.heap.size) (ht : t < w.heap.size) (hb' : b' < w.heap.size) (ht' : t' < w.heap.size)
    (ha : AtBl w b 0 bs) (hi : AtInts w t 0 ts) (ha' : AtBl w b' 0 bs') (hi' : AtInts w t' 0 ts') :
    Below w.heap.size w ((w.alloc (.cells #[.slice (some ⟨b, 0, none⟩) bs.length c, .slice (some ⟨t, 0, none⟩) ts.length d] 32)).alloc (.cells #[.slice (some ⟨b', 0, none⟩) bs'.length c', .slice (some ⟨t', 0, none⟩) ts'.length d'] 32)) ∧
    LnAt ((w.alloc (.cells #[.slice (some ⟨b, 0, none⟩) bs.length c, .slice (some ⟨t, 0, none⟩) ts.length d] 32)).alloc (.cells #[.slice (some ⟨b', 0, none⟩) bs'.length c', .slice (some ⟨t', 0, none⟩) ts'.length d'] 32)) w.heap.size b c t d bs ts ∧
    LnAt ((w.alloc (.cells #[.slice (some ⟨b, 0, none⟩) bs.length c, .slice (some ⟨t, 0, none⟩) ts.length d] 32)).alloc (.cells #[.slice (some ⟨b', 0, none⟩) bs'.length c', .slice (some ⟨t', 0, none⟩) ts'.length d'] 32)) (w.heap.size + 1) b' c' t' d' bs' ts' := by
  have L1 := LnAt.new (c := c) (c' := d) hb ht ha hi
  have b1 := below_new w (.cells #[.slice (some ⟨b, 0, none⟩) bs.length c, .slice (some ⟨t, 0, none⟩) ts.length d] 32)
  have L2 := LnAt.new (c := c') (c' := d') (Nat.lt_of_lt_of_le hb' b1.size) (Nat.lt_of_lt_of_le ht' b1.size) (ha'.below b1 hb') (hi'.below b1 ht')
  refine ⟨below_new' b1 _, L1.below (below_new _ _), ?_⟩
  have hsz : (w.alloc (.cells #[.slice (some ⟨b, 0, none⟩) bs.length c, .slice (some ⟨t, 0, none⟩) ts.length d] 32)).heap.size = w.heap.size + 1 := by simp
  rw [hsz] at L2
  exact L2
set_option maxHeartbeats 1600000 in
theorem sameLine_same (b c t d b' c' t' d' : Nat) (bs : List BV) (ts : List Int) (w : World) (hn : bs.length ≤ 1048576) (hm : ts.length ≤ 1048576) (hb : b < w.heap.size) (ht : t < w.heap.size) (hb' : b' < w.heap.size) (ht' : t' < w.heap.size)
    (ha : AtBl w b 0 bs) (hi : AtInts w t 0 ts) (ha' : AtBl w b' 0 bs) (hi' : AtInts w t' 0 ts) :
    Calls Try.prog 26 #[.agg #[.slice (some ⟨b, 0, none⟩) bs.length c, .slice (some ⟨t, 0, none⟩) ts.length d], .agg #[.slice (some ⟨b', 0, none⟩) bs.length c', .slice (some ⟨t', 0, none⟩) ts.length d']] w fun e w' => e = .returned (.bool true) ∧ Below w.heap.size w w' := by
  have S2 := Lib.hid (two_lines (c := c) (d := d) (c' := c') (d' := d') hb ht hb' ht' ha hi ha' hi')
  have t0 := bne_f (show (bs.length : Int) = (bs.length : Int) from rfl)
  clear ha hi ha' hi' hb ht hb' ht'
  go_enter Try.func26, Try.ntmps26
  go_wp2_with fail
  generalize (w.alloc (.cells #[.slice (some ⟨b, 0, none⟩) bs.length c, .slice (some ⟨t, 0, none⟩) ts.length d] 32)).alloc (.cells #[.slice (some ⟨b', 0, none⟩) bs.length c', .slice (some ⟨t', 0, none⟩) ts.length d'] 32) = W2 at *
  have c0 := S2.out.2.1.cell0
  have c1 := S2.out.2.1.cell1
  have d0 := S2.out.2.2.cell0
  have d1 := S2.out.2.2.cell1
  go_wp2_with fail
  refine (sameInts_q t d t' d' ts W2 (by omega) S2.out.2.1.2.2.1 S2.out.2.2.2.2.1).mono ?_
  rintro e w3 ⟨rfl, n3, rfl⟩
  go_wp2_with fail
  go_loopw [5] (fun i wr => ∃ k n : Nat, k ≤ bs.length ∧ i = .int .i64 k ∧ wr = W2.drewN n) (fun i _ => bs.length - (intOf i).toNat)
  case atStart => exact ⟨0, n3, Nat.zero_le _, rfl, rfl⟩
  case round =>
    obtain ⟨k, n, hk, rfl, rfl⟩ := hrel
    by_cases hlt : k < bs.length
    · obtain ⟨p0, p1, p2⟩ := S2.out.2.1.2.1.at0 hlt
      obtain ⟨q0, q1, q2⟩ := S2.out.2.2.2.1.at0 hlt
      have i2 : (k : Int) < (bs.length : Int) := by omega
      obtain ⟨⟨x, y, z⟩, hx⟩ : ∃ x, bs.getD k Z3 = x := ⟨_, rfl⟩
      rw [hx] at p0 p1 p2 q0 q1 q2
      have e1 := bne_f (show x = x from rfl)
      have e2 := beq_t (show x = x from rfl)
      clear hx
      go_wp2_with fail
      go_quiet (fail)
      go_wp2_with fail
      go_roundw
      case rel => exact ⟨k + 1, _, by omega, by go_num, rfl⟩
      case measure => simp [intOf]; omega
    · go_wp2_with fail
      go_ret
      exact ⟨rfl, below_drewN S2.out.1 _⟩

set_option maxHeartbeats 800000 in
theorem draw_lnew (A : Option Addr) (c m : Nat) (w : World) (hmc : m ≤ c) (hc : c ≤ 9223372036854775807) (hr : ByteRow w w.heap.size A m) :
    Calls Try.prog 29 #[.slice A m c] w fun e w' => ∃ x y : Nat, e = .returned (.tuple #[.int .i64 x, .int .i64 ((y : Int) - 1)]) ∧ x < 7 ∧ y < 8 ∧ Below w.heap.size w w' := by
  have HO := Lib.hid (open_any w.heap.size A m c w (Nat.le_refl _) hmc hc hr)
  clear hr
  go_enter Try.func29, Try.ntmps29
  go_wp2_with fail
  refine HO.out.mono ?_
  rintro e w1 ⟨rfl, hr1, hb1⟩
  have HR1 := Lib.hid hr1
  have HB1 := Lib.hid hb1
  clear hr1 hb1 HO
  go_wp2_with fail
  refine (pick_any w.heap.size w.heap.size 0 7 _ (by omega) (by omega) HR1.out).mono ?_
  rintro e w2 ⟨x, rfl, hx, hr2, hg2⟩
  have hx7 : x < 7 := by have := hx (by omega); omega
  have HR2 := Lib.hid hr2
  have HB2 := Lib.hid (below_app HB1.out hg2 (Nat.le_refl _))
  clear hr2 hg2 hx
  go_wp2_with fail
  refine (pick_any w.heap.size w.heap.size (0 + 1) 8 _ (by omega) (by omega) HR2.out).mono ?_
  rintro e w3 ⟨y, rfl, hy, _, hg3⟩
  have hy8 : y < 8 := by have := hy (by omega); omega
  have HB3 := Lib.hid (below_app HB2.out hg3 (Nat.le_refl _))
  clear hg3 hy
  go_wp2_with fail
  go_ret2
  exact ⟨x, y, rfl, hx7, hy8, HB3.out⟩

def newOk (n t : Nat) : Bool := lineB (List.replicate n Z3) (List.replicate t 0) && (decide (waitV (List.replicate n Z3) (List.replicate t 0) 0 = (t : Int)) && (decide (leftV (List.replicate n Z3) (List.replicate t 0) = 5 * (n : Int) * (t : Int)) && (doneB (List.replicate n Z3) (List.replicate t 0) == decide (t = 0))))
theorem newOk_all : ∀ n, n < 6 → ∀ t, t < 6 → 0 < n → newOk n t = true := by decide +kernel
end Go.Proofs.Ytmgakfbchhefcaa
