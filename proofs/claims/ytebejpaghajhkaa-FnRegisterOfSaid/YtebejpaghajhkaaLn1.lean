/-
  Lines: the states of a block's instrument. No condition.
-/
import Derived.Test.YtebejpaghajhkaaInts
import Derived.Deep.RegionWith
import Derived.Deep.RegionHeld3
import Derived.Deep.DeepFit
import Derived.Deep.DeepMust
import Derived.StillTailTactics
namespace Go.Proofs.Ytebejpaghajhkaa
open Go.RowKit
set_option linter.unusedVariables false

/-- A block: needle, inside, offered. -/
abbrev BV := Int × Bool × Bool
def bv (b : BV) : Value := .agg #[.int .i64 b.1, .bool b.2.1, .bool b.2.2]
def st : Nat → BV
  | 0 => (0, false, false) | 1 => (0, false, true) | 2 => (1, false, false) | 3 => (2, true, false) | _ => (2, false, false)

def Blk (w : World) (g : Nat) (t : TypeId) (cs : Array Value) : Prop := w.heap[g]? = some (.cells cs t (0, 0))
section
variable {w w' : World} {g : Nat} {t : TypeId} {cs : Array Value}
theorem Blk.lt (h : Blk w g t cs) : g < w.heap.size := by
  rcases Nat.lt_or_ge g w.heap.size with hlt | hge
  · exact hlt
  · unfold Blk at h; rw [Array.getElem?_eq_none hge] at h; cases h
theorem Blk.cell (h : Blk w g t cs) (i : Nat) : w.cell? ⟨g, i, none⟩ = cs[i]? := cell_of_row w g i cs t (0, 0) h
theorem Blk.frozen (h : Blk w g t cs) (i : Nat) : w.frozen? ⟨g, i, none⟩ = false := by
  unfold Blk at h
  simp [World.frozen?, h]
theorem Blk.new (w : World) (t : TypeId) (cs : Array Value) : Blk (w.alloc (.cells cs t)) w.heap.size t cs := heap_alloc_new w _
theorem Blk.drew (h : Blk w g t cs) : Blk w.drew g t cs := h
theorem Blk.alloc (h : Blk w g t cs) (o : Obj) : Blk (w.alloc o) g t cs := (Below.heap_alloc w o g h.lt).trans h
theorem Blk.set_ (h : Blk w g t cs) (i : Nat) (u : Value) : Blk (w.setCell ⟨g, i, none⟩ u) g t (cs.setIfInBounds i u) := by
  unfold Blk at h ⊢
  simp [World.setCell, Array.getElem?_modify, h]
theorem Blk.far (h : Blk w g t cs) {p : Addr} (hp : g ≠ p.block) (u : Value) : Blk (w.setCell p u) g t cs := (Below.heap_setCell w p u g hp).trans h
theorem Blk.below {B : Nat} (h : Blk w g t cs) (hb : Below B w w') (hg : g < B) : Blk w' g t cs := (hb.block g hg).trans h
theorem Blk.grown {row : Option Nat} (h : Blk w g t cs) (hb : w.grownBy w' row) (hg : some g ≠ row) : Blk w' g t cs := (hb.block g h.lt hg).trans h
end

set_option maxHeartbeats 400000 in
theorem blk0 (w : World) : Calls Try.prog 126 #[.agg #[]] w fun e w' => e = .returned (.agg #[.int .i64 0, .bool false, .bool false]) ∧ Below w.heap.size w w' := by
  go_enter Try.func126, Try.ntmps126
  go_wp2
  refine bodyPost_ret (v := (.agg #[.int .i64 0, .bool false, .bool false])) (by simp [results, Try.results126, go_sem]) rfl ⟨rfl, below_new' (below_new w _) _⟩

set_option maxHeartbeats 400000 in
theorem blk1 (w : World) : Calls Try.prog 127 #[.agg #[]] w fun e w' => e = .returned (.agg #[.int .i64 0, .bool false, .bool true]) ∧ Below w.heap.size w w' := by
  go_enter Try.func127, Try.ntmps127
  go_wp2
  refine bodyPost_ret (v := (.agg #[.int .i64 0, .bool false, .bool true])) (by simp [results, Try.results127, go_sem]) rfl ⟨rfl, below_new' (below_new w _) _⟩

set_option maxHeartbeats 400000 in
theorem blk2 (w : World) : Calls Try.prog 128 #[.agg #[]] w fun e w' => e = .returned (.agg #[.int .i64 1, .bool false, .bool false]) ∧ Below w.heap.size w w' := by
  go_enter Try.func128, Try.ntmps128
  go_wp2
  refine bodyPost_ret (v := (.agg #[.int .i64 1, .bool false, .bool false])) (by simp [results, Try.results128, go_sem]) rfl ⟨rfl, below_new' (below_new w _) _⟩

set_option maxHeartbeats 400000 in
theorem blk3 (w : World) : Calls Try.prog 129 #[.agg #[]] w fun e w' => e = .returned (.agg #[.int .i64 2, .bool true, .bool false]) ∧ Below w.heap.size w w' := by
  go_enter Try.func129, Try.ntmps129
  go_wp2
  refine bodyPost_ret (v := (.agg #[.int .i64 2, .bool true, .bool false])) (by simp [results, Try.results129, go_sem]) rfl ⟨rfl, below_new' (below_new w _) _⟩

set_option maxHeartbeats 400000 in
theorem blk4 (w : World) : Calls Try.prog 130 #[.agg #[]] w fun e w' => e = .returned (.agg #[.int .i64 2, .bool false, .bool false]) ∧ Below w.heap.size w w' := by
  go_enter Try.func130, Try.ntmps130
  go_wp2
  refine bodyPost_ret (v := (.agg #[.int .i64 2, .bool false, .bool false])) (by simp [results, Try.results130, go_sem]) rfl ⟨rfl, below_new' (below_new w _) _⟩

/-- The interface value of the k-th state. -/
def ifc : Nat → Value
  | 0 => .iface 130 (.agg #[]) | 1 => .iface 131 (.agg #[]) | 2 => .iface 132 (.agg #[]) | 3 => .iface 133 (.agg #[]) | 4 => .iface 134 (.agg #[])
  | _ => .nilIface
/-- The number of the state of a block, 5 if it is not possible. -/
def stN (b : BV) : Nat := if b = (0, false, false) then 0 else if b = (0, false, true) then 1 else if b = (1, false, false) then 2 else if b = (2, true, false) then 3 else if b = (2, false, false) then 4 else 5
theorem stN_hit {b : BV} {j : Nat} (hj : j < 5) (h : stN b = j) : b = st j := by
  unfold stN at h
  split at h
  · subst h; assumption
  split at h
  · subst h; assumption
  split at h
  · subst h; assumption
  split at h
  · subst h; assumption
  split at h
  · subst h; assumption
  omega
theorem stN_st {j : Nat} (hj : j < 5) : stN (st j) = j := by
  match j, hj with
  | 0, _ | 1, _ | 2, _ | 3, _ | 4, _ => decide
theorem stN_no {b : BV} {j : Nat} (hj : j < 5) (h : stN b ≠ j) : b ≠ st j := by rintro rfl; exact h (stN_st hj)
theorem stN_le (b : BV) : stN b ≤ 5 := by unfold stN; repeat' split
                                          all_goals omega
set_option maxHeartbeats 1600000 in
theorem instr_any (n : Int) (i o : Bool) (w : World) : Calls Try.prog 91 #[.agg #[.int .i64 n, .bool i, .bool o]] w fun e w' => e = .returned (.tuple #[ifc (stN (n, i, o)), .bool (decide (stN (n, i, o) < 5))]) ∧ Below w.heap.size w w' := by
  obtain ⟨q, hq⟩ : ∃ q, stN (n, i, o) = q := ⟨_, rfl⟩
  have HQ := Lib.hid hq
  rw [hq]
  clear hq
  go_enter Try.func91, Try.ntmps91
  go_wp2
  go_loopw [6, 20] (fun s j wr => ∃ k : Nat, k ≤ 5 ∧ j = .int .i64 k ∧ k ≤ q ∧ Below w.heap.size w wr ∧ Blk wr w.heap.size 59 #[.int .i64 n, .bool i, .bool o] ∧ Blk wr (w.heap.size + 1) 120 #[ifc 0, ifc 1, ifc 2, ifc 3, ifc 4]) (fun _ j _ => 5 - (intOf j).toNat)
  case atStart => exact ⟨0, by omega, rfl, by omega, below_new' (below_new w _) _, (Blk.new w _ _).alloc _, by simpa [ifc] using Blk.new (w.alloc _) _ _⟩
  case round =>
    obtain ⟨k, hk, rfl, hkq, hbel, hbk, hba⟩ := hrel
    by_cases hlt : k < 5
    · have b0 := hbk.cell 0
      have b1 := hbk.cell 1
      have b2 := hbk.cell 2
      have l0 := hbk.lt
      have c0 := hba.cell k
      have HB := Lib.hid hbel
      have HK := Lib.hid hbk
      have HA := Lib.hid hba
      simp at b0 b1 b2
      clear hbel hbk hba
      rcases (by omega : k = 0 ∨ k = 1 ∨ k = 2 ∨ k = 3 ∨ k = 4) with rfl | rfl | rfl | rfl | rfl
      · simp [ifc] at c0
        have hm : ∀ W : World, (method 258 130 (.agg #[]) "loop.example/blockboxes/impl.block").run Try.prog W = .ok (126, .agg #[]) W := fun _ => by kernel_rfl
        by_cases hj : q = 0
        · subst hj
          have e := stN_hit (by omega) HQ.out
          simp only [st, Prod.mk.injEq] at e
          obtain ⟨rfl, rfl, rfl⟩ := e
          clear HQ
          go_wp2_with fail
          go_region_held3 (fun w' => w'.cell? ⟨w.heap.size, 0, none⟩ = some (.int .i64 0) ∧ w'.cell? ⟨w.heap.size, 1, none⟩ = some (.bool false) ∧ w'.cell? ⟨w.heap.size, 2, none⟩ = some (.bool false)) (go_keep) (first | (go_at_call 126; go_must (go_fit (blk0 _); rintro e w1 ⟨rfl, hb1⟩; have d0 := (hb1.cell (p := ⟨w.heap.size, 0, none⟩) (by simpa using l0)).trans (by simpa using b0); have d1 := (hb1.cell (p := ⟨w.heap.size, 1, none⟩) (by simpa using l0)).trans (by simpa using b1); have d2 := (hb1.cell (p := ⟨w.heap.size, 2, none⟩) (by simpa using l0)).trans (by simpa using b2))))
          have B1 := Lib.hid (below_to HB.out.drew hb1 HB.out.size)
          clear hb1
          go_wp2_with fail
          go_ret2
          exact ⟨rfl, B1.out⟩
        · have HN := Lib.hid (stN_no (by omega) (fun e => hj (HQ.out.symm.trans e)))
          by_cases hn : n = 0
          · subst hn
            cases i
            case true =>
              go_wp2_with fail
              go_region_held3 (fun w' => w'.cell? ⟨w.heap.size, 0, none⟩ = some (.int .i64 0) ∧ w'.cell? ⟨w.heap.size, 1, none⟩ = some (.bool true) ∧ w'.cell? ⟨w.heap.size, 2, none⟩ = some (.bool o)) (go_keep) (first | (go_at_call 126; go_must (go_fit (blk0 _); rintro e w1 ⟨rfl, hb1⟩; have d0 := (hb1.cell (p := ⟨w.heap.size, 0, none⟩) (by simpa using l0)).trans (by simpa using b0); have d1 := (hb1.cell (p := ⟨w.heap.size, 1, none⟩) (by simpa using l0)).trans (by simpa using b1); have d2 := (hb1.cell (p := ⟨w.heap.size, 2, none⟩) (by simpa using l0)).trans (by simpa using b2))))
              have B1 := Lib.hid (below_to HB.out.drew hb1 HB.out.size)
              have K1 := Lib.hid (HK.out.drew.below hb1 HK.out.lt)
              have A1 := Lib.hid (HA.out.drew.below hb1 HA.out.lt)
              clear hb1 hm b0 b1 b2 c0
              go_wp2_with fail
              go_roundw
              case rel => exact ⟨1, by omega, by go_num, by omega, B1.out, K1.out, A1.out⟩
              case measure => simp [intOf]
            case false =>
              cases o
              case false => exact absurd rfl HN.out
              case true =>
                go_wp2_with fail
                go_region_held3 (fun w' => w'.cell? ⟨w.heap.size, 0, none⟩ = some (.int .i64 0) ∧ w'.cell? ⟨w.heap.size, 1, none⟩ = some (.bool false) ∧ w'.cell? ⟨w.heap.size, 2, none⟩ = some (.bool true)) (go_keep) (first | (go_at_call 126; go_must (go_fit (blk0 _); rintro e w1 ⟨rfl, hb1⟩; have d0 := (hb1.cell (p := ⟨w.heap.size, 0, none⟩) (by simpa using l0)).trans (by simpa using b0); have d1 := (hb1.cell (p := ⟨w.heap.size, 1, none⟩) (by simpa using l0)).trans (by simpa using b1); have d2 := (hb1.cell (p := ⟨w.heap.size, 2, none⟩) (by simpa using l0)).trans (by simpa using b2))))
                have B1 := Lib.hid (below_to HB.out.drew hb1 HB.out.size)
                have K1 := Lib.hid (HK.out.drew.below hb1 HK.out.lt)
                have A1 := Lib.hid (HA.out.drew.below hb1 HA.out.lt)
                clear hb1 hm b0 b1 b2 c0
                go_wp2_with fail
                go_roundw
                case rel => exact ⟨1, by omega, by go_num, by omega, B1.out, K1.out, A1.out⟩
                case measure => simp [intOf]
          · have z1 := beq_f hn
            have z2 := beq_f (Ne.symm hn)
            go_wp2_with fail
            go_region_held3 (fun w' => w'.cell? ⟨w.heap.size, 0, none⟩ = some (.int .i64 n) ∧ w'.cell? ⟨w.heap.size, 1, none⟩ = some (.bool i) ∧ w'.cell? ⟨w.heap.size, 2, none⟩ = some (.bool o)) (go_keep) (first | (go_at_call 126; go_must (go_fit (blk0 _); rintro e w1 ⟨rfl, hb1⟩; have d0 := (hb1.cell (p := ⟨w.heap.size, 0, none⟩) (by simpa using l0)).trans (by simpa using b0); have d1 := (hb1.cell (p := ⟨w.heap.size, 1, none⟩) (by simpa using l0)).trans (by simpa using b1); have d2 := (hb1.cell (p := ⟨w.heap.size, 2, none⟩) (by simpa using l0)).trans (by simpa using b2))))
            have B1 := Lib.hid (below_to HB.out.drew hb1 HB.out.size)
            have K1 := Lib.hid (HK.out.drew.below hb1 HK.out.lt)
            have A1 := Lib.hid (HA.out.drew.below hb1 HA.out.lt)
            clear hb1 hm b0 b1 b2 c0
            go_wp2_with fail
            go_roundw
            case rel => exact ⟨1, by omega, by go_num, by omega, B1.out, K1.out, A1.out⟩
            case measure => simp [intOf]
      · simp [ifc] at c0
        have hm : ∀ W : World, (method 258 131 (.agg #[]) "loop.example/blockboxes/impl.block").run Try.prog W = .ok (127, .agg #[]) W := fun _ => by kernel_rfl
        by_cases hj : q = 1
        · subst hj
          have e := stN_hit (by omega) HQ.out
          simp only [st, Prod.mk.injEq] at e
          obtain ⟨rfl, rfl, rfl⟩ := e
          clear HQ
          go_wp2_with fail
          go_region_held3 (fun w' => w'.cell? ⟨w.heap.size, 0, none⟩ = some (.int .i64 0) ∧ w'.cell? ⟨w.heap.size, 1, none⟩ = some (.bool false) ∧ w'.cell? ⟨w.heap.size, 2, none⟩ = some (.bool true)) (go_keep) (first | (go_at_call 127; go_must (go_fit (blk1 _); rintro e w1 ⟨rfl, hb1⟩; have d0 := (hb1.cell (p := ⟨w.heap.size, 0, none⟩) (by simpa using l0)).trans (by simpa using b0); have d1 := (hb1.cell (p := ⟨w.heap.size, 1, none⟩) (by simpa using l0)).trans (by simpa using b1); have d2 := (hb1.cell (p := ⟨w.heap.size, 2, none⟩) (by simpa using l0)).trans (by simpa using b2))))
          have B1 := Lib.hid (below_to HB.out.drew hb1 HB.out.size)
          clear hb1
          go_wp2_with fail
          go_ret2
          exact ⟨rfl, B1.out⟩
        · have HN := Lib.hid (stN_no (by omega) (fun e => hj (HQ.out.symm.trans e)))
          by_cases hn : n = 0
          · subst hn
            cases i
            case true =>
              go_wp2_with fail
              go_region_held3 (fun w' => w'.cell? ⟨w.heap.size, 0, none⟩ = some (.int .i64 0) ∧ w'.cell? ⟨w.heap.size, 1, none⟩ = some (.bool true) ∧ w'.cell? ⟨w.heap.size, 2, none⟩ = some (.bool o)) (go_keep) (first | (go_at_call 127; go_must (go_fit (blk1 _); rintro e w1 ⟨rfl, hb1⟩; have d0 := (hb1.cell (p := ⟨w.heap.size, 0, none⟩) (by simpa using l0)).trans (by simpa using b0); have d1 := (hb1.cell (p := ⟨w.heap.size, 1, none⟩) (by simpa using l0)).trans (by simpa using b1); have d2 := (hb1.cell (p := ⟨w.heap.size, 2, none⟩) (by simpa using l0)).trans (by simpa using b2))))
              have B1 := Lib.hid (below_to HB.out.drew hb1 HB.out.size)
              have K1 := Lib.hid (HK.out.drew.below hb1 HK.out.lt)
              have A1 := Lib.hid (HA.out.drew.below hb1 HA.out.lt)
              clear hb1 hm b0 b1 b2 c0
              go_wp2_with fail
              go_roundw
              case rel => exact ⟨2, by omega, by go_num, by omega, B1.out, K1.out, A1.out⟩
              case measure => simp [intOf]
            case false =>
              cases o
              case true => exact absurd rfl HN.out
              case false =>
                go_wp2_with fail
                go_region_held3 (fun w' => w'.cell? ⟨w.heap.size, 0, none⟩ = some (.int .i64 0) ∧ w'.cell? ⟨w.heap.size, 1, none⟩ = some (.bool false) ∧ w'.cell? ⟨w.heap.size, 2, none⟩ = some (.bool false)) (go_keep) (first | (go_at_call 127; go_must (go_fit (blk1 _); rintro e w1 ⟨rfl, hb1⟩; have d0 := (hb1.cell (p := ⟨w.heap.size, 0, none⟩) (by simpa using l0)).trans (by simpa using b0); have d1 := (hb1.cell (p := ⟨w.heap.size, 1, none⟩) (by simpa using l0)).trans (by simpa using b1); have d2 := (hb1.cell (p := ⟨w.heap.size, 2, none⟩) (by simpa using l0)).trans (by simpa using b2))))
                have B1 := Lib.hid (below_to HB.out.drew hb1 HB.out.size)
                have K1 := Lib.hid (HK.out.drew.below hb1 HK.out.lt)
                have A1 := Lib.hid (HA.out.drew.below hb1 HA.out.lt)
                clear hb1 hm b0 b1 b2 c0
                go_wp2_with fail
                go_roundw
                case rel => exact ⟨2, by omega, by go_num, by omega, B1.out, K1.out, A1.out⟩
                case measure => simp [intOf]
          · have z1 := beq_f hn
            have z2 := beq_f (Ne.symm hn)
            go_wp2_with fail
            go_region_held3 (fun w' => w'.cell? ⟨w.heap.size, 0, none⟩ = some (.int .i64 n) ∧ w'.cell? ⟨w.heap.size, 1, none⟩ = some (.bool i) ∧ w'.cell? ⟨w.heap.size, 2, none⟩ = some (.bool o)) (go_keep) (first | (go_at_call 127; go_must (go_fit (blk1 _); rintro e w1 ⟨rfl, hb1⟩; have d0 := (hb1.cell (p := ⟨w.heap.size, 0, none⟩) (by simpa using l0)).trans (by simpa using b0); have d1 := (hb1.cell (p := ⟨w.heap.size, 1, none⟩) (by simpa using l0)).trans (by simpa using b1); have d2 := (hb1.cell (p := ⟨w.heap.size, 2, none⟩) (by simpa using l0)).trans (by simpa using b2))))
            have B1 := Lib.hid (below_to HB.out.drew hb1 HB.out.size)
            have K1 := Lib.hid (HK.out.drew.below hb1 HK.out.lt)
            have A1 := Lib.hid (HA.out.drew.below hb1 HA.out.lt)
            clear hb1 hm b0 b1 b2 c0
            go_wp2_with fail
            go_roundw
            case rel => exact ⟨2, by omega, by go_num, by omega, B1.out, K1.out, A1.out⟩
            case measure => simp [intOf]
      · simp [ifc] at c0
        have hm : ∀ W : World, (method 258 132 (.agg #[]) "loop.example/blockboxes/impl.block").run Try.prog W = .ok (128, .agg #[]) W := fun _ => by kernel_rfl
        by_cases hj : q = 2
        · subst hj
          have e := stN_hit (by omega) HQ.out
          simp only [st, Prod.mk.injEq] at e
          obtain ⟨rfl, rfl, rfl⟩ := e
          clear HQ
          go_wp2_with fail
          go_region_held3 (fun w' => w'.cell? ⟨w.heap.size, 0, none⟩ = some (.int .i64 1) ∧ w'.cell? ⟨w.heap.size, 1, none⟩ = some (.bool false) ∧ w'.cell? ⟨w.heap.size, 2, none⟩ = some (.bool false)) (go_keep) (first | (go_at_call 128; go_must (go_fit (blk2 _); rintro e w1 ⟨rfl, hb1⟩; have d0 := (hb1.cell (p := ⟨w.heap.size, 0, none⟩) (by simpa using l0)).trans (by simpa using b0); have d1 := (hb1.cell (p := ⟨w.heap.size, 1, none⟩) (by simpa using l0)).trans (by simpa using b1); have d2 := (hb1.cell (p := ⟨w.heap.size, 2, none⟩) (by simpa using l0)).trans (by simpa using b2))))
          have B1 := Lib.hid (below_to HB.out.drew hb1 HB.out.size)
          clear hb1
          go_wp2_with fail
          go_ret2
          exact ⟨rfl, B1.out⟩
        · have HN := Lib.hid (stN_no (by omega) (fun e => hj (HQ.out.symm.trans e)))
          by_cases hn : n = 1
          · subst hn
            cases i
            case true =>
              go_wp2_with fail
              go_region_held3 (fun w' => w'.cell? ⟨w.heap.size, 0, none⟩ = some (.int .i64 1) ∧ w'.cell? ⟨w.heap.size, 1, none⟩ = some (.bool true) ∧ w'.cell? ⟨w.heap.size, 2, none⟩ = some (.bool o)) (go_keep) (first | (go_at_call 128; go_must (go_fit (blk2 _); rintro e w1 ⟨rfl, hb1⟩; have d0 := (hb1.cell (p := ⟨w.heap.size, 0, none⟩) (by simpa using l0)).trans (by simpa using b0); have d1 := (hb1.cell (p := ⟨w.heap.size, 1, none⟩) (by simpa using l0)).trans (by simpa using b1); have d2 := (hb1.cell (p := ⟨w.heap.size, 2, none⟩) (by simpa using l0)).trans (by simpa using b2))))
              have B1 := Lib.hid (below_to HB.out.drew hb1 HB.out.size)
              have K1 := Lib.hid (HK.out.drew.below hb1 HK.out.lt)
              have A1 := Lib.hid (HA.out.drew.below hb1 HA.out.lt)
              clear hb1 hm b0 b1 b2 c0
              go_wp2_with fail
              go_roundw
              case rel => exact ⟨3, by omega, by go_num, by omega, B1.out, K1.out, A1.out⟩
              case measure => simp [intOf]
            case false =>
              cases o
              case false => exact absurd rfl HN.out
              case true =>
                go_wp2_with fail
                go_region_held3 (fun w' => w'.cell? ⟨w.heap.size, 0, none⟩ = some (.int .i64 1) ∧ w'.cell? ⟨w.heap.size, 1, none⟩ = some (.bool false) ∧ w'.cell? ⟨w.heap.size, 2, none⟩ = some (.bool true)) (go_keep) (first | (go_at_call 128; go_must (go_fit (blk2 _); rintro e w1 ⟨rfl, hb1⟩; have d0 := (hb1.cell (p := ⟨w.heap.size, 0, none⟩) (by simpa using l0)).trans (by simpa using b0); have d1 := (hb1.cell (p := ⟨w.heap.size, 1, none⟩) (by simpa using l0)).trans (by simpa using b1); have d2 := (hb1.cell (p := ⟨w.heap.size, 2, none⟩) (by simpa using l0)).trans (by simpa using b2))))
                have B1 := Lib.hid (below_to HB.out.drew hb1 HB.out.size)
                have K1 := Lib.hid (HK.out.drew.below hb1 HK.out.lt)
                have A1 := Lib.hid (HA.out.drew.below hb1 HA.out.lt)
                clear hb1 hm b0 b1 b2 c0
                go_wp2_with fail
                go_roundw
                case rel => exact ⟨3, by omega, by go_num, by omega, B1.out, K1.out, A1.out⟩
                case measure => simp [intOf]
          · have z1 := beq_f hn
            have z2 := beq_f (Ne.symm hn)
            go_wp2_with fail
            go_region_held3 (fun w' => w'.cell? ⟨w.heap.size, 0, none⟩ = some (.int .i64 n) ∧ w'.cell? ⟨w.heap.size, 1, none⟩ = some (.bool i) ∧ w'.cell? ⟨w.heap.size, 2, none⟩ = some (.bool o)) (go_keep) (first | (go_at_call 128; go_must (go_fit (blk2 _); rintro e w1 ⟨rfl, hb1⟩; have d0 := (hb1.cell (p := ⟨w.heap.size, 0, none⟩) (by simpa using l0)).trans (by simpa using b0); have d1 := (hb1.cell (p := ⟨w.heap.size, 1, none⟩) (by simpa using l0)).trans (by simpa using b1); have d2 := (hb1.cell (p := ⟨w.heap.size, 2, none⟩) (by simpa using l0)).trans (by simpa using b2))))
            have B1 := Lib.hid (below_to HB.out.drew hb1 HB.out.size)
            have K1 := Lib.hid (HK.out.drew.below hb1 HK.out.lt)
            have A1 := Lib.hid (HA.out.drew.below hb1 HA.out.lt)
            clear hb1 hm b0 b1 b2 c0
            go_wp2_with fail
            go_roundw
            case rel => exact ⟨3, by omega, by go_num, by omega, B1.out, K1.out, A1.out⟩
            case measure => simp [intOf]
      · simp [ifc] at c0
        have hm : ∀ W : World, (method 258 133 (.agg #[]) "loop.example/blockboxes/impl.block").run Try.prog W = .ok (129, .agg #[]) W := fun _ => by kernel_rfl
        by_cases hj : q = 3
        · subst hj
          have e := stN_hit (by omega) HQ.out
          simp only [st, Prod.mk.injEq] at e
          obtain ⟨rfl, rfl, rfl⟩ := e
          clear HQ
          go_wp2_with fail
          go_region_held3 (fun w' => w'.cell? ⟨w.heap.size, 0, none⟩ = some (.int .i64 2) ∧ w'.cell? ⟨w.heap.size, 1, none⟩ = some (.bool true) ∧ w'.cell? ⟨w.heap.size, 2, none⟩ = some (.bool false)) (go_keep) (first | (go_at_call 129; go_must (go_fit (blk3 _); rintro e w1 ⟨rfl, hb1⟩; have d0 := (hb1.cell (p := ⟨w.heap.size, 0, none⟩) (by simpa using l0)).trans (by simpa using b0); have d1 := (hb1.cell (p := ⟨w.heap.size, 1, none⟩) (by simpa using l0)).trans (by simpa using b1); have d2 := (hb1.cell (p := ⟨w.heap.size, 2, none⟩) (by simpa using l0)).trans (by simpa using b2))))
          have B1 := Lib.hid (below_to HB.out.drew hb1 HB.out.size)
          clear hb1
          go_wp2_with fail
          go_ret2
          exact ⟨rfl, B1.out⟩
        · have HN := Lib.hid (stN_no (by omega) (fun e => hj (HQ.out.symm.trans e)))
          by_cases hn : n = 2
          · subst hn
            cases i
            case false =>
              go_wp2_with fail
              go_region_held3 (fun w' => w'.cell? ⟨w.heap.size, 0, none⟩ = some (.int .i64 2) ∧ w'.cell? ⟨w.heap.size, 1, none⟩ = some (.bool false) ∧ w'.cell? ⟨w.heap.size, 2, none⟩ = some (.bool o)) (go_keep) (first | (go_at_call 129; go_must (go_fit (blk3 _); rintro e w1 ⟨rfl, hb1⟩; have d0 := (hb1.cell (p := ⟨w.heap.size, 0, none⟩) (by simpa using l0)).trans (by simpa using b0); have d1 := (hb1.cell (p := ⟨w.heap.size, 1, none⟩) (by simpa using l0)).trans (by simpa using b1); have d2 := (hb1.cell (p := ⟨w.heap.size, 2, none⟩) (by simpa using l0)).trans (by simpa using b2))))
              have B1 := Lib.hid (below_to HB.out.drew hb1 HB.out.size)
              have K1 := Lib.hid (HK.out.drew.below hb1 HK.out.lt)
              have A1 := Lib.hid (HA.out.drew.below hb1 HA.out.lt)
              clear hb1 hm b0 b1 b2 c0
              go_wp2_with fail
              go_roundw
              case rel => exact ⟨4, by omega, by go_num, by omega, B1.out, K1.out, A1.out⟩
              case measure => simp [intOf]
            case true =>
              cases o
              case false => exact absurd rfl HN.out
              case true =>
                go_wp2_with fail
                go_region_held3 (fun w' => w'.cell? ⟨w.heap.size, 0, none⟩ = some (.int .i64 2) ∧ w'.cell? ⟨w.heap.size, 1, none⟩ = some (.bool true) ∧ w'.cell? ⟨w.heap.size, 2, none⟩ = some (.bool true)) (go_keep) (first | (go_at_call 129; go_must (go_fit (blk3 _); rintro e w1 ⟨rfl, hb1⟩; have d0 := (hb1.cell (p := ⟨w.heap.size, 0, none⟩) (by simpa using l0)).trans (by simpa using b0); have d1 := (hb1.cell (p := ⟨w.heap.size, 1, none⟩) (by simpa using l0)).trans (by simpa using b1); have d2 := (hb1.cell (p := ⟨w.heap.size, 2, none⟩) (by simpa using l0)).trans (by simpa using b2))))
                have B1 := Lib.hid (below_to HB.out.drew hb1 HB.out.size)
                have K1 := Lib.hid (HK.out.drew.below hb1 HK.out.lt)
                have A1 := Lib.hid (HA.out.drew.below hb1 HA.out.lt)
                clear hb1 hm b0 b1 b2 c0
                go_wp2_with fail
                go_roundw
                case rel => exact ⟨4, by omega, by go_num, by omega, B1.out, K1.out, A1.out⟩
                case measure => simp [intOf]
          · have z1 := beq_f hn
            have z2 := beq_f (Ne.symm hn)
            go_wp2_with fail
            go_region_held3 (fun w' => w'.cell? ⟨w.heap.size, 0, none⟩ = some (.int .i64 n) ∧ w'.cell? ⟨w.heap.size, 1, none⟩ = some (.bool i) ∧ w'.cell? ⟨w.heap.size, 2, none⟩ = some (.bool o)) (go_keep) (first | (go_at_call 129; go_must (go_fit (blk3 _); rintro e w1 ⟨rfl, hb1⟩; have d0 := (hb1.cell (p := ⟨w.heap.size, 0, none⟩) (by simpa using l0)).trans (by simpa using b0); have d1 := (hb1.cell (p := ⟨w.heap.size, 1, none⟩) (by simpa using l0)).trans (by simpa using b1); have d2 := (hb1.cell (p := ⟨w.heap.size, 2, none⟩) (by simpa using l0)).trans (by simpa using b2))))
            have B1 := Lib.hid (below_to HB.out.drew hb1 HB.out.size)
            have K1 := Lib.hid (HK.out.drew.below hb1 HK.out.lt)
            have A1 := Lib.hid (HA.out.drew.below hb1 HA.out.lt)
            clear hb1 hm b0 b1 b2 c0
            go_wp2_with fail
            go_roundw
            case rel => exact ⟨4, by omega, by go_num, by omega, B1.out, K1.out, A1.out⟩
            case measure => simp [intOf]
      · simp [ifc] at c0
        have hm : ∀ W : World, (method 258 134 (.agg #[]) "loop.example/blockboxes/impl.block").run Try.prog W = .ok (130, .agg #[]) W := fun _ => by kernel_rfl
        by_cases hj : q = 4
        · subst hj
          have e := stN_hit (by omega) HQ.out
          simp only [st, Prod.mk.injEq] at e
          obtain ⟨rfl, rfl, rfl⟩ := e
          clear HQ
          go_wp2_with fail
          go_region_held3 (fun w' => w'.cell? ⟨w.heap.size, 0, none⟩ = some (.int .i64 2) ∧ w'.cell? ⟨w.heap.size, 1, none⟩ = some (.bool false) ∧ w'.cell? ⟨w.heap.size, 2, none⟩ = some (.bool false)) (go_keep) (first | (go_at_call 130; go_must (go_fit (blk4 _); rintro e w1 ⟨rfl, hb1⟩; have d0 := (hb1.cell (p := ⟨w.heap.size, 0, none⟩) (by simpa using l0)).trans (by simpa using b0); have d1 := (hb1.cell (p := ⟨w.heap.size, 1, none⟩) (by simpa using l0)).trans (by simpa using b1); have d2 := (hb1.cell (p := ⟨w.heap.size, 2, none⟩) (by simpa using l0)).trans (by simpa using b2))))
          have B1 := Lib.hid (below_to HB.out.drew hb1 HB.out.size)
          clear hb1
          go_wp2_with fail
          go_ret2
          exact ⟨rfl, B1.out⟩
        · have HN := Lib.hid (stN_no (by omega) (fun e => hj (HQ.out.symm.trans e)))
          by_cases hn : n = 2
          · subst hn
            cases i
            case true =>
              go_wp2_with fail
              go_region_held3 (fun w' => w'.cell? ⟨w.heap.size, 0, none⟩ = some (.int .i64 2) ∧ w'.cell? ⟨w.heap.size, 1, none⟩ = some (.bool true) ∧ w'.cell? ⟨w.heap.size, 2, none⟩ = some (.bool o)) (go_keep) (first | (go_at_call 130; go_must (go_fit (blk4 _); rintro e w1 ⟨rfl, hb1⟩; have d0 := (hb1.cell (p := ⟨w.heap.size, 0, none⟩) (by simpa using l0)).trans (by simpa using b0); have d1 := (hb1.cell (p := ⟨w.heap.size, 1, none⟩) (by simpa using l0)).trans (by simpa using b1); have d2 := (hb1.cell (p := ⟨w.heap.size, 2, none⟩) (by simpa using l0)).trans (by simpa using b2))))
              have B1 := Lib.hid (below_to HB.out.drew hb1 HB.out.size)
              have K1 := Lib.hid (HK.out.drew.below hb1 HK.out.lt)
              have A1 := Lib.hid (HA.out.drew.below hb1 HA.out.lt)
              clear hb1 hm b0 b1 b2 c0
              go_wp2_with fail
              go_roundw
              case rel => exact ⟨5, by omega, by go_num, by omega, B1.out, K1.out, A1.out⟩
              case measure => simp [intOf]
            case false =>
              cases o
              case false => exact absurd rfl HN.out
              case true =>
                go_wp2_with fail
                go_region_held3 (fun w' => w'.cell? ⟨w.heap.size, 0, none⟩ = some (.int .i64 2) ∧ w'.cell? ⟨w.heap.size, 1, none⟩ = some (.bool false) ∧ w'.cell? ⟨w.heap.size, 2, none⟩ = some (.bool true)) (go_keep) (first | (go_at_call 130; go_must (go_fit (blk4 _); rintro e w1 ⟨rfl, hb1⟩; have d0 := (hb1.cell (p := ⟨w.heap.size, 0, none⟩) (by simpa using l0)).trans (by simpa using b0); have d1 := (hb1.cell (p := ⟨w.heap.size, 1, none⟩) (by simpa using l0)).trans (by simpa using b1); have d2 := (hb1.cell (p := ⟨w.heap.size, 2, none⟩) (by simpa using l0)).trans (by simpa using b2))))
                have B1 := Lib.hid (below_to HB.out.drew hb1 HB.out.size)
                have K1 := Lib.hid (HK.out.drew.below hb1 HK.out.lt)
                have A1 := Lib.hid (HA.out.drew.below hb1 HA.out.lt)
                clear hb1 hm b0 b1 b2 c0
                go_wp2_with fail
                go_roundw
                case rel => exact ⟨5, by omega, by go_num, by omega, B1.out, K1.out, A1.out⟩
                case measure => simp [intOf]
          · have z1 := beq_f hn
            have z2 := beq_f (Ne.symm hn)
            go_wp2_with fail
            go_region_held3 (fun w' => w'.cell? ⟨w.heap.size, 0, none⟩ = some (.int .i64 n) ∧ w'.cell? ⟨w.heap.size, 1, none⟩ = some (.bool i) ∧ w'.cell? ⟨w.heap.size, 2, none⟩ = some (.bool o)) (go_keep) (first | (go_at_call 130; go_must (go_fit (blk4 _); rintro e w1 ⟨rfl, hb1⟩; have d0 := (hb1.cell (p := ⟨w.heap.size, 0, none⟩) (by simpa using l0)).trans (by simpa using b0); have d1 := (hb1.cell (p := ⟨w.heap.size, 1, none⟩) (by simpa using l0)).trans (by simpa using b1); have d2 := (hb1.cell (p := ⟨w.heap.size, 2, none⟩) (by simpa using l0)).trans (by simpa using b2))))
            have B1 := Lib.hid (below_to HB.out.drew hb1 HB.out.size)
            have K1 := Lib.hid (HK.out.drew.below hb1 HK.out.lt)
            have A1 := Lib.hid (HA.out.drew.below hb1 HA.out.lt)
            clear hb1 hm b0 b1 b2 c0
            go_wp2_with fail
            go_roundw
            case rel => exact ⟨5, by omega, by go_num, by omega, B1.out, K1.out, A1.out⟩
            case measure => simp [intOf]
    · have hq5 : q = 5 := by have := stN_le (n, i, o); have := HQ.out; omega
      have hk5 : k = 5 := by omega
      subst hq5 hk5
      have HB := Lib.hid hbel
      clear hbel hbk hba
      go_wp2_with fail
      go_ret2
      exact ⟨rfl, HB.out⟩
end Go.Proofs.Ytebejpaghajhkaa
