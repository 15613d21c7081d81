/-
  Lines: one event of a block, of the reference. No condition.
-/
import Derived.Test.YtebejpaghajhkaaLn10
namespace Go.Proofs.Ytebejpaghajhkaa
open Go.RowKit
set_option linter.unusedVariables false
set_option linter.unusedSimpArgs false

/-- What l3Step hands back. -/
def l3V (q : Nat) (x : Int) : Value := if nextI q x = 5 then .tuple #[.agg #[.int .i64 0, .bool false, .bool false], .bool false] else .tuple #[bv (st (nextI q x)), .bool true]

set_option maxHeartbeats 3200000 in
theorem l3Step_0 (x : Int) (w : World) : Calls Try.prog 90 #[.agg #[.int .i64 0, .bool false, .bool false], .int .u8 x] w fun e w' => e = .returned (l3V 0 x) ∧ Below w.heap.size w w' := by
  by_cases h111 : x = 111
  · subst h111
    rw [show l3V 0 111 = .tuple #[.agg #[.int .i64 0, .bool false, .bool true], .bool true] from rfl]
    go_enter Try.func90, Try.ntmps90
    go_wp2
    exact bodyPost_ret (v := .tuple #[.agg #[.int .i64 0, .bool false, .bool true], .bool true]) (by simp [results, Try.results90, go_sem]) rfl ⟨rfl, below_new' (below_new w _) _⟩
  by_cases h114 : x = 114
  · subst h114
    rw [show l3V 0 114 = .tuple #[.agg #[.int .i64 0, .bool false, .bool false], .bool false] from rfl]
    clear h111
    go_enter Try.func90, Try.ntmps90
    go_wp2
    exact bodyPost_ret (v := .tuple #[.agg #[.int .i64 0, .bool false, .bool false], .bool false]) (by simp [results, Try.results90, go_sem]) rfl ⟨rfl, below_new' (below_new w _) _⟩
  by_cases h97 : x = 97
  · subst h97
    rw [show l3V 0 97 = .tuple #[.agg #[.int .i64 0, .bool false, .bool false], .bool false] from rfl]
    clear h111 h114
    go_enter Try.func90, Try.ntmps90
    go_wp2
    exact bodyPost_ret (v := .tuple #[.agg #[.int .i64 0, .bool false, .bool false], .bool false]) (by simp [results, Try.results90, go_sem]) rfl ⟨rfl, below_new' (below_new w _) _⟩
  by_cases h99 : x = 99
  · subst h99
    rw [show l3V 0 99 = .tuple #[.agg #[.int .i64 0, .bool false, .bool false], .bool false] from rfl]
    clear h111 h114 h97
    go_enter Try.func90, Try.ntmps90
    go_wp2
    exact bodyPost_ret (v := .tuple #[.agg #[.int .i64 0, .bool false, .bool false], .bool false]) (by simp [results, Try.results90, go_sem]) rfl ⟨rfl, below_new' (below_new w _) _⟩
  by_cases h101 : x = 101
  · subst h101
    rw [show l3V 0 101 = .tuple #[.agg #[.int .i64 0, .bool false, .bool false], .bool false] from rfl]
    clear h111 h114 h97 h99
    go_enter Try.func90, Try.ntmps90
    go_wp2
    exact bodyPost_ret (v := .tuple #[.agg #[.int .i64 0, .bool false, .bool false], .bool false]) (by simp [results, Try.results90, go_sem]) rfl ⟨rfl, below_new' (below_new w _) _⟩
  by_cases h108 : x = 108
  · subst h108
    rw [show l3V 0 108 = .tuple #[.agg #[.int .i64 0, .bool false, .bool false], .bool false] from rfl]
    clear h111 h114 h97 h99 h101
    go_enter Try.func90, Try.ntmps90
    go_wp2
    exact bodyPost_ret (v := .tuple #[.agg #[.int .i64 0, .bool false, .bool false], .bool false]) (by simp [results, Try.results90, go_sem]) rfl ⟨rfl, below_new' (below_new w _) _⟩
  by_cases h102 : x = 102
  · subst h102
    rw [show l3V 0 102 = .tuple #[.agg #[.int .i64 0, .bool false, .bool false], .bool false] from rfl]
    clear h111 h114 h97 h99 h101 h108
    go_enter Try.func90, Try.ntmps90
    go_wp2
    exact bodyPost_ret (v := .tuple #[.agg #[.int .i64 0, .bool false, .bool false], .bool false]) (by simp [results, Try.results90, go_sem]) rfl ⟨rfl, below_new' (below_new w _) _⟩
  rw [show l3V 0 x = .tuple #[.agg #[.int .i64 0, .bool false, .bool false], .bool false] by simp [l3V, nextI, h111, h114, h97, h99, h101, h108, h102]]
  have t111 := beq_f h111
  have t114 := beq_f h114
  have t97 := beq_f h97
  have t99 := beq_f h99
  have t101 := beq_f h101
  have t108 := beq_f h108
  have t102 := beq_f h102
  clear h111 h114 h97 h99 h101 h108 h102
  go_enter Try.func90, Try.ntmps90
  go_wp2
  exact bodyPost_ret (v := .tuple #[.agg #[.int .i64 0, .bool false, .bool false], .bool false]) (by simp [results, Try.results90, go_sem]) rfl ⟨rfl, below_new' (below_new w _) _⟩

set_option maxHeartbeats 3200000 in
theorem l3Step_1 (x : Int) (w : World) : Calls Try.prog 90 #[.agg #[.int .i64 0, .bool false, .bool true], .int .u8 x] w fun e w' => e = .returned (l3V 1 x) ∧ Below w.heap.size w w' := by
  by_cases h111 : x = 111
  · subst h111
    rw [show l3V 1 111 = .tuple #[.agg #[.int .i64 0, .bool false, .bool false], .bool false] from rfl]
    go_enter Try.func90, Try.ntmps90
    go_wp2
    exact bodyPost_ret (v := .tuple #[.agg #[.int .i64 0, .bool false, .bool false], .bool false]) (by simp [results, Try.results90, go_sem]) rfl ⟨rfl, below_new' (below_new w _) _⟩
  by_cases h114 : x = 114
  · subst h114
    rw [show l3V 1 114 = .tuple #[.agg #[.int .i64 0, .bool false, .bool false], .bool true] from rfl]
    clear h111
    go_enter Try.func90, Try.ntmps90
    go_wp2
    exact bodyPost_ret (v := .tuple #[.agg #[.int .i64 0, .bool false, .bool false], .bool true]) (by simp [results, Try.results90, go_sem]) rfl ⟨rfl, below_new' (below_new w _) _⟩
  by_cases h97 : x = 97
  · subst h97
    rw [show l3V 1 97 = .tuple #[.agg #[.int .i64 1, .bool false, .bool false], .bool true] from rfl]
    clear h111 h114
    go_enter Try.func90, Try.ntmps90
    go_wp2
    exact bodyPost_ret (v := .tuple #[.agg #[.int .i64 1, .bool false, .bool false], .bool true]) (by simp [results, Try.results90, go_sem]) rfl ⟨rfl, below_new' (below_new w _) _⟩
  by_cases h99 : x = 99
  · subst h99
    rw [show l3V 1 99 = .tuple #[.agg #[.int .i64 0, .bool false, .bool false], .bool false] from rfl]
    clear h111 h114 h97
    go_enter Try.func90, Try.ntmps90
    go_wp2
    exact bodyPost_ret (v := .tuple #[.agg #[.int .i64 0, .bool false, .bool false], .bool false]) (by simp [results, Try.results90, go_sem]) rfl ⟨rfl, below_new' (below_new w _) _⟩
  by_cases h101 : x = 101
  · subst h101
    rw [show l3V 1 101 = .tuple #[.agg #[.int .i64 0, .bool false, .bool false], .bool false] from rfl]
    clear h111 h114 h97 h99
    go_enter Try.func90, Try.ntmps90
    go_wp2
    exact bodyPost_ret (v := .tuple #[.agg #[.int .i64 0, .bool false, .bool false], .bool false]) (by simp [results, Try.results90, go_sem]) rfl ⟨rfl, below_new' (below_new w _) _⟩
  by_cases h108 : x = 108
  · subst h108
    rw [show l3V 1 108 = .tuple #[.agg #[.int .i64 0, .bool false, .bool false], .bool false] from rfl]
    clear h111 h114 h97 h99 h101
    go_enter Try.func90, Try.ntmps90
    go_wp2
    exact bodyPost_ret (v := .tuple #[.agg #[.int .i64 0, .bool false, .bool false], .bool false]) (by simp [results, Try.results90, go_sem]) rfl ⟨rfl, below_new' (below_new w _) _⟩
  by_cases h102 : x = 102
  · subst h102
    rw [show l3V 1 102 = .tuple #[.agg #[.int .i64 0, .bool false, .bool false], .bool false] from rfl]
    clear h111 h114 h97 h99 h101 h108
    go_enter Try.func90, Try.ntmps90
    go_wp2
    exact bodyPost_ret (v := .tuple #[.agg #[.int .i64 0, .bool false, .bool false], .bool false]) (by simp [results, Try.results90, go_sem]) rfl ⟨rfl, below_new' (below_new w _) _⟩
  rw [show l3V 1 x = .tuple #[.agg #[.int .i64 0, .bool false, .bool false], .bool false] by simp [l3V, nextI, h111, h114, h97, h99, h101, h108, h102]]
  have t111 := beq_f h111
  have t114 := beq_f h114
  have t97 := beq_f h97
  have t99 := beq_f h99
  have t101 := beq_f h101
  have t108 := beq_f h108
  have t102 := beq_f h102
  clear h111 h114 h97 h99 h101 h108 h102
  go_enter Try.func90, Try.ntmps90
  go_wp2
  exact bodyPost_ret (v := .tuple #[.agg #[.int .i64 0, .bool false, .bool false], .bool false]) (by simp [results, Try.results90, go_sem]) rfl ⟨rfl, below_new' (below_new w _) _⟩

set_option maxHeartbeats 3200000 in
theorem l3Step_2 (x : Int) (w : World) : Calls Try.prog 90 #[.agg #[.int .i64 1, .bool false, .bool false], .int .u8 x] w fun e w' => e = .returned (l3V 2 x) ∧ Below w.heap.size w w' := by
  by_cases h111 : x = 111
  · subst h111
    rw [show l3V 2 111 = .tuple #[.agg #[.int .i64 0, .bool false, .bool false], .bool false] from rfl]
    go_enter Try.func90, Try.ntmps90
    go_wp2
    exact bodyPost_ret (v := .tuple #[.agg #[.int .i64 0, .bool false, .bool false], .bool false]) (by simp [results, Try.results90, go_sem]) rfl ⟨rfl, below_new' (below_new w _) _⟩
  by_cases h114 : x = 114
  · subst h114
    rw [show l3V 2 114 = .tuple #[.agg #[.int .i64 0, .bool false, .bool false], .bool false] from rfl]
    clear h111
    go_enter Try.func90, Try.ntmps90
    go_wp2
    exact bodyPost_ret (v := .tuple #[.agg #[.int .i64 0, .bool false, .bool false], .bool false]) (by simp [results, Try.results90, go_sem]) rfl ⟨rfl, below_new' (below_new w _) _⟩
  by_cases h97 : x = 97
  · subst h97
    rw [show l3V 2 97 = .tuple #[.agg #[.int .i64 0, .bool false, .bool false], .bool false] from rfl]
    clear h111 h114
    go_enter Try.func90, Try.ntmps90
    go_wp2
    exact bodyPost_ret (v := .tuple #[.agg #[.int .i64 0, .bool false, .bool false], .bool false]) (by simp [results, Try.results90, go_sem]) rfl ⟨rfl, below_new' (below_new w _) _⟩
  by_cases h99 : x = 99
  · subst h99
    rw [show l3V 2 99 = .tuple #[.agg #[.int .i64 0, .bool false, .bool false], .bool true] from rfl]
    clear h111 h114 h97
    go_enter Try.func90, Try.ntmps90
    go_wp2
    exact bodyPost_ret (v := .tuple #[.agg #[.int .i64 0, .bool false, .bool false], .bool true]) (by simp [results, Try.results90, go_sem]) rfl ⟨rfl, below_new' (below_new w _) _⟩
  by_cases h101 : x = 101
  · subst h101
    rw [show l3V 2 101 = .tuple #[.agg #[.int .i64 2, .bool true, .bool false], .bool true] from rfl]
    clear h111 h114 h97 h99
    go_enter Try.func90, Try.ntmps90
    go_wp2
    exact bodyPost_ret (v := .tuple #[.agg #[.int .i64 2, .bool true, .bool false], .bool true]) (by simp [results, Try.results90, go_sem]) rfl ⟨rfl, below_new' (below_new w _) _⟩
  by_cases h108 : x = 108
  · subst h108
    rw [show l3V 2 108 = .tuple #[.agg #[.int .i64 0, .bool false, .bool false], .bool false] from rfl]
    clear h111 h114 h97 h99 h101
    go_enter Try.func90, Try.ntmps90
    go_wp2
    exact bodyPost_ret (v := .tuple #[.agg #[.int .i64 0, .bool false, .bool false], .bool false]) (by simp [results, Try.results90, go_sem]) rfl ⟨rfl, below_new' (below_new w _) _⟩
  by_cases h102 : x = 102
  · subst h102
    rw [show l3V 2 102 = .tuple #[.agg #[.int .i64 0, .bool false, .bool false], .bool false] from rfl]
    clear h111 h114 h97 h99 h101 h108
    go_enter Try.func90, Try.ntmps90
    go_wp2
    exact bodyPost_ret (v := .tuple #[.agg #[.int .i64 0, .bool false, .bool false], .bool false]) (by simp [results, Try.results90, go_sem]) rfl ⟨rfl, below_new' (below_new w _) _⟩
  rw [show l3V 2 x = .tuple #[.agg #[.int .i64 0, .bool false, .bool false], .bool false] by simp [l3V, nextI, h111, h114, h97, h99, h101, h108, h102]]
  have t111 := beq_f h111
  have t114 := beq_f h114
  have t97 := beq_f h97
  have t99 := beq_f h99
  have t101 := beq_f h101
  have t108 := beq_f h108
  have t102 := beq_f h102
  clear h111 h114 h97 h99 h101 h108 h102
  go_enter Try.func90, Try.ntmps90
  go_wp2
  exact bodyPost_ret (v := .tuple #[.agg #[.int .i64 0, .bool false, .bool false], .bool false]) (by simp [results, Try.results90, go_sem]) rfl ⟨rfl, below_new' (below_new w _) _⟩

set_option maxHeartbeats 3200000 in
theorem l3Step_3 (x : Int) (w : World) : Calls Try.prog 90 #[.agg #[.int .i64 2, .bool true, .bool false], .int .u8 x] w fun e w' => e = .returned (l3V 3 x) ∧ Below w.heap.size w w' := by
  by_cases h111 : x = 111
  · subst h111
    rw [show l3V 3 111 = .tuple #[.agg #[.int .i64 0, .bool false, .bool false], .bool false] from rfl]
    go_enter Try.func90, Try.ntmps90
    go_wp2
    exact bodyPost_ret (v := .tuple #[.agg #[.int .i64 0, .bool false, .bool false], .bool false]) (by simp [results, Try.results90, go_sem]) rfl ⟨rfl, below_new' (below_new w _) _⟩
  by_cases h114 : x = 114
  · subst h114
    rw [show l3V 3 114 = .tuple #[.agg #[.int .i64 0, .bool false, .bool false], .bool false] from rfl]
    clear h111
    go_enter Try.func90, Try.ntmps90
    go_wp2
    exact bodyPost_ret (v := .tuple #[.agg #[.int .i64 0, .bool false, .bool false], .bool false]) (by simp [results, Try.results90, go_sem]) rfl ⟨rfl, below_new' (below_new w _) _⟩
  by_cases h97 : x = 97
  · subst h97
    rw [show l3V 3 97 = .tuple #[.agg #[.int .i64 0, .bool false, .bool false], .bool false] from rfl]
    clear h111 h114
    go_enter Try.func90, Try.ntmps90
    go_wp2
    exact bodyPost_ret (v := .tuple #[.agg #[.int .i64 0, .bool false, .bool false], .bool false]) (by simp [results, Try.results90, go_sem]) rfl ⟨rfl, below_new' (below_new w _) _⟩
  by_cases h99 : x = 99
  · subst h99
    rw [show l3V 3 99 = .tuple #[.agg #[.int .i64 0, .bool false, .bool false], .bool false] from rfl]
    clear h111 h114 h97
    go_enter Try.func90, Try.ntmps90
    go_wp2
    exact bodyPost_ret (v := .tuple #[.agg #[.int .i64 0, .bool false, .bool false], .bool false]) (by simp [results, Try.results90, go_sem]) rfl ⟨rfl, below_new' (below_new w _) _⟩
  by_cases h101 : x = 101
  · subst h101
    rw [show l3V 3 101 = .tuple #[.agg #[.int .i64 0, .bool false, .bool false], .bool false] from rfl]
    clear h111 h114 h97 h99
    go_enter Try.func90, Try.ntmps90
    go_wp2
    exact bodyPost_ret (v := .tuple #[.agg #[.int .i64 0, .bool false, .bool false], .bool false]) (by simp [results, Try.results90, go_sem]) rfl ⟨rfl, below_new' (below_new w _) _⟩
  by_cases h108 : x = 108
  · subst h108
    rw [show l3V 3 108 = .tuple #[.agg #[.int .i64 2, .bool false, .bool false], .bool true] from rfl]
    clear h111 h114 h97 h99 h101
    go_enter Try.func90, Try.ntmps90
    go_wp2
    exact bodyPost_ret (v := .tuple #[.agg #[.int .i64 2, .bool false, .bool false], .bool true]) (by simp [results, Try.results90, go_sem]) rfl ⟨rfl, below_new' (below_new w _) _⟩
  by_cases h102 : x = 102
  · subst h102
    rw [show l3V 3 102 = .tuple #[.agg #[.int .i64 0, .bool false, .bool false], .bool false] from rfl]
    clear h111 h114 h97 h99 h101 h108
    go_enter Try.func90, Try.ntmps90
    go_wp2
    exact bodyPost_ret (v := .tuple #[.agg #[.int .i64 0, .bool false, .bool false], .bool false]) (by simp [results, Try.results90, go_sem]) rfl ⟨rfl, below_new' (below_new w _) _⟩
  rw [show l3V 3 x = .tuple #[.agg #[.int .i64 0, .bool false, .bool false], .bool false] by simp [l3V, nextI, h111, h114, h97, h99, h101, h108, h102]]
  have t111 := beq_f h111
  have t114 := beq_f h114
  have t97 := beq_f h97
  have t99 := beq_f h99
  have t101 := beq_f h101
  have t108 := beq_f h108
  have t102 := beq_f h102
  clear h111 h114 h97 h99 h101 h108 h102
  go_enter Try.func90, Try.ntmps90
  go_wp2
  exact bodyPost_ret (v := .tuple #[.agg #[.int .i64 0, .bool false, .bool false], .bool false]) (by simp [results, Try.results90, go_sem]) rfl ⟨rfl, below_new' (below_new w _) _⟩

set_option maxHeartbeats 3200000 in
theorem l3Step_4 (x : Int) (w : World) : Calls Try.prog 90 #[.agg #[.int .i64 2, .bool false, .bool false], .int .u8 x] w fun e w' => e = .returned (l3V 4 x) ∧ Below w.heap.size w w' := by
  by_cases h111 : x = 111
  · subst h111
    rw [show l3V 4 111 = .tuple #[.agg #[.int .i64 0, .bool false, .bool false], .bool false] from rfl]
    go_enter Try.func90, Try.ntmps90
    go_wp2
    exact bodyPost_ret (v := .tuple #[.agg #[.int .i64 0, .bool false, .bool false], .bool false]) (by simp [results, Try.results90, go_sem]) rfl ⟨rfl, below_new' (below_new w _) _⟩
  by_cases h114 : x = 114
  · subst h114
    rw [show l3V 4 114 = .tuple #[.agg #[.int .i64 0, .bool false, .bool false], .bool false] from rfl]
    clear h111
    go_enter Try.func90, Try.ntmps90
    go_wp2
    exact bodyPost_ret (v := .tuple #[.agg #[.int .i64 0, .bool false, .bool false], .bool false]) (by simp [results, Try.results90, go_sem]) rfl ⟨rfl, below_new' (below_new w _) _⟩
  by_cases h97 : x = 97
  · subst h97
    rw [show l3V 4 97 = .tuple #[.agg #[.int .i64 0, .bool false, .bool false], .bool false] from rfl]
    clear h111 h114
    go_enter Try.func90, Try.ntmps90
    go_wp2
    exact bodyPost_ret (v := .tuple #[.agg #[.int .i64 0, .bool false, .bool false], .bool false]) (by simp [results, Try.results90, go_sem]) rfl ⟨rfl, below_new' (below_new w _) _⟩
  by_cases h99 : x = 99
  · subst h99
    rw [show l3V 4 99 = .tuple #[.agg #[.int .i64 0, .bool false, .bool false], .bool false] from rfl]
    clear h111 h114 h97
    go_enter Try.func90, Try.ntmps90
    go_wp2
    exact bodyPost_ret (v := .tuple #[.agg #[.int .i64 0, .bool false, .bool false], .bool false]) (by simp [results, Try.results90, go_sem]) rfl ⟨rfl, below_new' (below_new w _) _⟩
  by_cases h101 : x = 101
  · subst h101
    rw [show l3V 4 101 = .tuple #[.agg #[.int .i64 0, .bool false, .bool false], .bool false] from rfl]
    clear h111 h114 h97 h99
    go_enter Try.func90, Try.ntmps90
    go_wp2
    exact bodyPost_ret (v := .tuple #[.agg #[.int .i64 0, .bool false, .bool false], .bool false]) (by simp [results, Try.results90, go_sem]) rfl ⟨rfl, below_new' (below_new w _) _⟩
  by_cases h108 : x = 108
  · subst h108
    rw [show l3V 4 108 = .tuple #[.agg #[.int .i64 0, .bool false, .bool false], .bool false] from rfl]
    clear h111 h114 h97 h99 h101
    go_enter Try.func90, Try.ntmps90
    go_wp2
    exact bodyPost_ret (v := .tuple #[.agg #[.int .i64 0, .bool false, .bool false], .bool false]) (by simp [results, Try.results90, go_sem]) rfl ⟨rfl, below_new' (below_new w _) _⟩
  by_cases h102 : x = 102
  · subst h102
    rw [show l3V 4 102 = .tuple #[.agg #[.int .i64 0, .bool false, .bool false], .bool true] from rfl]
    clear h111 h114 h97 h99 h101 h108
    go_enter Try.func90, Try.ntmps90
    go_wp2
    exact bodyPost_ret (v := .tuple #[.agg #[.int .i64 0, .bool false, .bool false], .bool true]) (by simp [results, Try.results90, go_sem]) rfl ⟨rfl, below_new' (below_new w _) _⟩
  rw [show l3V 4 x = .tuple #[.agg #[.int .i64 0, .bool false, .bool false], .bool false] by simp [l3V, nextI, h111, h114, h97, h99, h101, h108, h102]]
  have t111 := beq_f h111
  have t114 := beq_f h114
  have t97 := beq_f h97
  have t99 := beq_f h99
  have t101 := beq_f h101
  have t108 := beq_f h108
  have t102 := beq_f h102
  clear h111 h114 h97 h99 h101 h108 h102
  go_enter Try.func90, Try.ntmps90
  go_wp2
  exact bodyPost_ret (v := .tuple #[.agg #[.int .i64 0, .bool false, .bool false], .bool false]) (by simp [results, Try.results90, go_sem]) rfl ⟨rfl, below_new' (below_new w _) _⟩

theorem l3Step_any (q : Nat) (x : Int) (w : World) (hq : q < 5) : Calls Try.prog 90 #[.agg #[.int .i64 (st q).1, .bool (st q).2.1, .bool (st q).2.2], .int .u8 x] w fun e w' => e = .returned (l3V q x) ∧ Below w.heap.size w w' := by
  rcases (show q = 0 ∨ q = 1 ∨ q = 2 ∨ q = 3 ∨ q = 4 by omega) with rfl | rfl | rfl | rfl | rfl
  · exact l3Step_0 x w
  · exact l3Step_1 x w
  · exact l3Step_2 x w
  · exact l3Step_3 x w
  · exact l3Step_4 x w

set_option maxHeartbeats 1600000 in
theorem specBstep_any (n : Int) (i o : Bool) (s : ByteArray) (w : World) (hs : s.size ≤ 9223372036854775807) : Calls Try.prog 98 #[.agg #[.int .i64 n, .bool i, .bool o], .string s] w (BstV w (n, i, o) s) := by
  let W2 := (w.alloc (.cells #[.int .i64 n, .bool i, .bool o] 59)).alloc (.cells #[.int .i64 0, .bool false, .bool false] 59)
  have K2 : Hid (Below w.heap.size w W2 ∧ Blk W2 (w.heap.size + 1) 59 #[.int .i64 0, .bool false, .bool false] ∧ Blk W2 w.heap.size 59 #[.int .i64 n, .bool i, .bool o]) := Lib.hid ⟨below_new' (below_new w _) _, by simpa using Blk.new (w.alloc (.cells #[.int .i64 n, .bool i, .bool o] 59)) 59 #[.int .i64 0, .bool false, .bool false], (Blk.new _ _ _).alloc _⟩
  have HST : Hid (∀ W, (Below w.heap.size w W ∧ Blk W (w.heap.size + 1) 59 #[.int .i64 0, .bool false, .bool false] ∧ Blk W w.heap.size 59 #[.int .i64 n, .bool i, .bool o]) → ∀ W', Below W.heap.size W W' → (Below w.heap.size w W' ∧ Blk W' (w.heap.size + 1) 59 #[.int .i64 0, .bool false, .bool false] ∧ Blk W' w.heap.size 59 #[.int .i64 n, .bool i, .bool o])) := Lib.hid fun W h W' k => ⟨below_to h.1 k h.1.size, h.2.1.below k h.2.1.lt, h.2.2.below k h.2.2.lt⟩
  have HSD : Hid (∀ W, (Below w.heap.size w W ∧ Blk W (w.heap.size + 1) 59 #[.int .i64 0, .bool false, .bool false] ∧ Blk W w.heap.size 59 #[.int .i64 n, .bool i, .bool o]) → (Below w.heap.size w W.drew ∧ Blk W.drew (w.heap.size + 1) 59 #[.int .i64 0, .bool false, .bool false] ∧ Blk W.drew w.heap.size 59 #[.int .i64 n, .bool i, .bool o])) := Lib.hid fun W h => ⟨h.1.drew, h.2.1, h.2.2⟩
  have hpo := fun w => specPoss_any n i o w
  unfold possB at hpo
  obtain ⟨q, hq⟩ : ∃ q, stN (n, i, o) = q := ⟨_, rfl⟩
  have hq5 := stN_le (n, i, o)
  rw [hq] at hpo hq5
  by_cases hp : q = 5
  · have hb5 := bstep_imposs (s := s) (hq.trans hp)
    have e : BstV w (n, i, o) s = fun e w' => e = .returned (.tuple #[.agg #[.int .i64 0, .bool false, .bool false], .bool false]) ∧ Below w.heap.size w w' := by
      funext e w'; unfold BstV; rw [bst_f hb5, hb5]; rfl
    rw [e]
    subst hp
    have HPO := Lib.hid hpo
    clear hq hb5 hpo e
    go_enter Try.func98, Try.ntmps98
    go_wp2_with (go_at_call 89; go_must (go_fit (HPO.out _); rintro e w2 ⟨rfl, hb2⟩; have S2 := Lib.hid (HST.out _ K2.out _ hb2); obtain ⟨c0, c1, c2, f0, f1, f2⟩ := blkCells S2.out.2.1; clear hb2))
    have F := store3 S2.out.1 (by omega) S2.out.2.1 rfl (.int .i64 0) (.bool false) (.bool false)
    exact bodyPost_ret (v := .tuple #[.agg #[.int .i64 0, .bool false, .bool false], .bool false]) (by have r0 := F.2.1; have r1 := F.2.2.1; have r2 := F.2.2.2; simp [results, Try.results98, go_sem, r0, r1, r2]) rfl ⟨rfl, F.1⟩
  · have hp' : q < 5 := by omega
    rw [dec_t hp'] at hpo
    have HPO := Lib.hid hpo
    by_cases hs1 : s.size = 1
    · have hbs := bstep_get (b := (n, i, o)) hs1
      rw [hq] at hbs
      have t1 := bne_f (show (s.size : Int) = 1 by omega)
      have i1 : (0 : Int) < (s.size : Int) := by omega
      have i1n : 0 < s.size := by omega
      have hl3 := fun w => l3Step_any q (s[0].toNat : Int) w hp'
      have hst := stN_hit hp' hq
      rw [← hst] at hl3
      have hle := nextI_le q (s[0].toNat : Int)
      obtain ⟨j, hj⟩ : ∃ j, nextI q (s[0].toNat : Int) = j := ⟨_, rfl⟩
      unfold l3V at hl3
      rw [hj] at hbs hle hl3
      have e : BstV w (n, i, o) s = fun e w' => e = .returned (.tuple #[.agg #[.int .i64 (bst (n, i, o) s).1, .bool (bst (n, i, o) s).2.1, .bool (bst (n, i, o) s).2.2], .bool (decide (bstep (n, i, o) s < 5))]) ∧ Below w.heap.size w w' := rfl
      have h3 : (if j = 5 then Value.tuple #[.agg #[.int .i64 0, .bool false, .bool false], .bool false] else .tuple #[bv (st j), .bool true]) = .tuple #[.agg #[.int .i64 (bst (n, i, o) s).1, .bool (bst (n, i, o) s).2.1, .bool (bst (n, i, o) s).2.2], .bool (decide (bstep (n, i, o) s < 5))] := by
        by_cases h5 : j = 5
        · rw [if_pos h5, bst_f (hbs.trans h5), hbs, h5]; rfl
        · rw [if_neg h5, bst_t hbs (by omega), hbs, dec_t (show j < 5 by omega)]; rfl
      rw [h3] at hl3
      rw [e]
      have HS1 := Lib.hid hs1
      generalize (bst (n, i, o) s).1 = X at *
      generalize (bst (n, i, o) s).2.1 = Y at *
      generalize (bst (n, i, o) s).2.2 = Z at *
      generalize decide (bstep (n, i, o) s < 5) = D at *
      have HL3 := Lib.hid hl3
      clear hs1 hq hbs hst hj hle hl3 e h3 hpo
      go_enter Try.func98, Try.ntmps98
      go_wp2_with (go_at_call 89; go_must (go_fit (HPO.out _); rintro e w2 ⟨rfl, hb2⟩; have S2 := Lib.hid (HST.out _ K2.out _ hb2); obtain ⟨c0, c1, c2, f0, f1, f2⟩ := blkCells S2.out.2.1; obtain ⟨x0, x1, x2, _, _, _⟩ := blkCells S2.out.2.2; clear hb2))
      go_region_held3 (fun w' => w'.cell? ⟨w.heap.size, 0, none⟩ = some (.int .i64 n) ∧ w'.cell? ⟨w.heap.size, 1, none⟩ = some (.bool i) ∧ w'.cell? ⟨w.heap.size, 2, none⟩ = some (.bool o)) (go_keep) (first | (go_at_call 90; go_must (go_fit (HL3.out _); rintro e w3 ⟨rfl, hb3⟩; have S3 := Lib.hid (HST.out _ (HSD.out _ S2.out) _ hb3); obtain ⟨d0, d1, d2, g0, g1, g2⟩ := blkCells S3.out.2.1; obtain ⟨y0, y1, y2, _, _, _⟩ := blkCells S3.out.2.2; clear hb3)))
      go_wp2_with fail
      have F := store3 S3.out.1 (by omega) S3.out.2.1 rfl (.int .i64 X) (.bool Y) (.bool Z)
      exact bodyPost_ret (v := .tuple #[.agg #[.int .i64 X, .bool Y, .bool Z], .bool D]) (by have r0 := F.2.1; have r1 := F.2.2.1; have r2 := F.2.2.2; simp [results, Try.results98, go_sem, r0, r1, r2]) rfl ⟨rfl, F.1⟩
    · have hb5 := bstep_size (b := (n, i, o)) hs1
      have e : BstV w (n, i, o) s = fun e w' => e = .returned (.tuple #[.agg #[.int .i64 0, .bool false, .bool false], .bool false]) ∧ Below w.heap.size w w' := by
        funext e w'; unfold BstV; rw [bst_f hb5, hb5]; rfl
      rw [e]
      have t1 := bne_t (show (s.size : Int) ≠ 1 by omega)
      clear hq hb5 hpo e hs1
      go_enter Try.func98, Try.ntmps98
      go_wp2_with (go_at_call 89; go_must (go_fit (HPO.out _); rintro e w2 ⟨rfl, hb2⟩; have S2 := Lib.hid (HST.out _ K2.out _ hb2); obtain ⟨c0, c1, c2, f0, f1, f2⟩ := blkCells S2.out.2.1; clear hb2))
      have F := store3 S2.out.1 (by omega) S2.out.2.1 rfl (.int .i64 0) (.bool false) (.bool false)
      exact bodyPost_ret (v := .tuple #[.agg #[.int .i64 0, .bool false, .bool false], .bool false]) (by have r0 := F.2.1; have r1 := F.2.2.1; have r2 := F.2.2.2; simp [results, Try.results98, go_sem, r0, r1, r2]) rfl ⟨rfl, F.1⟩
end Go.Proofs.Ytebejpaghajhkaa
