/-
  The map of the program's TrackWay: what it holds. No condition.
-/
import Derived.Test.YtkfgimhihknpoaaWay1
import Derived.Maps.OwnSet
import Derived.DeepKeys4
namespace Go.Proofs.Ytkfgimhihknpoaa
open Go.RowKit
open Go.Maps
set_option linter.unusedVariables false

theorem laidOutW : laidOutB Try.prog = true := by kernel_rfl
theorem wideTr : (match Try.prog.underlying 54 with | some (.array _ _) | some (.struct _) => true | _ => false) = true := by kernel_rfl
theorem lawTr : Keyed Try.prog 54 := Keyed.of_law (deep_law_laid laidOutW (m := 3) (by omega) (of_decide_eq_true (by kernel_rfl)) (by kernel_rfl) wideTr)
theorem zeroIn (w : World) : (zeroValue 3).run Try.prog w = .ok (.int .i64 0) w := by kernel_rfl
theorem cellsTr : Try.prog.cellsOf 54 = 2 := by kernel_rfl
theorem cellsU16 : Try.prog.cellsOf 52 = 1 := by kernel_rfl
theorem cellsInt : Try.prog.cellsOf 3 = 1 := by kernel_rfl
theorem ktTr : Try.prog.keyType 54 = true := by kernel_rfl
theorem tySz : ∃ m, Try.prog.types.size = m + 1 := ⟨Try.prog.types.size - 1, by kernel_rfl⟩
def kl (s n : Nat) : Lit := .string (keyBytes [.int .u16 (s : Int), .int .i64 (n : Int)])
theorem wf16 {s : Nat} (h : s < 65536) : (Lit.int .u16 (s : Int)).wf = true := by
  simp [Lit.wf, IntKind.min, IntKind.max, IntKind.signed, IntKind.bits]; omega
theorem wf64 {z : Int} (h1 : -9223372036854775808 ≤ z) (h2 : z ≤ 9223372036854775807) : (Lit.int .i64 z).wf = true := by
  simp [Lit.wf, IntKind.min, IntKind.max, IntKind.signed, IntKind.bits]; omega
theorem keyTr (s n : Nat) (hs : s < 65536) (hn : n ≤ 8) : keyOf Try.prog 54 (.agg #[.int .u16 (s : Int), .int .i64 (n : Int)]) = some (kl s n) := by
  obtain ⟨m, hm⟩ := tySz
  have hu := Try.underlying54
  unfold keyOf
  simp only [hu]
  rw [if_pos (by simp [ktTr, Value.formed, hu, cellsTr]), hm]
  unfold Program.keyLits
  simp only [hu, Value.cells]
  rw [if_pos (by rw [cellsTr]; exact ⟨rfl, by kernel_rfl⟩)]
  simp [cellsU16, cellsInt, Program.keyLits, Try.underlying52, Try.underlying3, wf16 hs, wf64 (show (-9223372036854775808 : Int) ≤ (n : Int) by omega) (by omega), kl]
theorem kl_inj {s s' n : Nat} (hs : s < 65536) (hs' : s' < 65536) (hn : n ≤ 8) (h : kl s n = kl s' n) : s = s' := by
  have h1 := keyTr s n hs hn
  have h2 := keyTr s' n hs' hn
  rw [h] at h1
  have h3 := lawTr.inj h1 h2
  simp only [Value.agg.injEq, Array.mk.injEq, List.cons.injEq, Value.int.injEq, true_and] at h3
  omega
theorem kl_key (s n : Nat) : WideAt.IsKeyLit (kl s n) := trivial
/-- The map of what has been reached. -/
def MapIs (wr : World) (B n m : Nat) (L : List (Nat × Nat)) : Prop :=
  ∃ D : DataW Unit, wr.ownsMap Try.prog 54 (plainElem (H := Unit) Try.prog 3) B m D ∧ (∀ x, x < 2 ^ n → (Maps.has D (kl x n) = true ↔ x ∈ L.map (·.1))) ∧ (∀ p ∈ L, p.1 < 2 ^ n ∧ D.atKey (kl p.1 n) (.lit (.int .i64 0)) = .lit (.int .i64 (p.2 : Int)))
theorem MapIs.kept {w w' : World} {B n m : Nat} {L : List (Nat × Nat)} {row : Option Nat} (h : MapIs w B n m L) (hg : w.grownBy w' row) (hne : some B ≠ row) : MapIs w' B n m L := by
  obtain ⟨D, h1, h2⟩ := h
  exact ⟨D, h1.kept hg hne, h2⟩
theorem MapIs.lt {w : World} {B n m : Nat} {L : List (Nat × Nat)} (h : MapIs w B n m L) : B < w.heap.size := by
  obtain ⟨D, h1, _⟩ := h
  exact h1.lt
theorem MapIs.below {w w' : World} {B n m B0 : Nat} {L : List (Nat × Nat)} (h : MapIs w B n m L) (hb : Below B0 w w') (hl : B < B0) : MapIs w' B n m L := by
  obtain ⟨D, ⟨es, clock, hbk, r⟩, h2⟩ := h
  exact ⟨D, ⟨es, clock, (hb.block B hl).trans hbk, r⟩, h2⟩
/-- Where x has not been reached, it is put in with its steps. -/
theorem map_put {w' : World} {B n m y d : Nat} {L : List (Nat × Nat)} {D : DataW Unit} (h8 : n ≤ 8) (hD : IsMap D)
    (h2 : ∀ x, x < 2 ^ n → (Maps.has D (kl x n) = true ↔ x ∈ L.map (·.1))) (h3 : ∀ p ∈ L, p.1 < 2 ^ n ∧ D.atKey (kl p.1 n) (.lit (.int .i64 0)) = .lit (.int .i64 (p.2 : Int)))
    (hy : y < 2 ^ n) (hnew : y ∉ L.map (·.1)) (ho : w'.ownsMap Try.prog 54 (plainElem (H := Unit) Try.prog 3) B m (D.put (kl y n) (.lit (.int .i64 (d : Int))))) : MapIs w' B n m (L ++ [(y, d)]) := by
  have hp := pow8 h8
  refine ⟨_, ho, fun x hx => ?_, fun p hp' => ?_⟩
  · by_cases hxy : x = y
    · subst hxy
      rw [has_put_same hD (kl_key x n)]
      simp
    · rw [has_put_other (fun h => hxy (kl_inj (by omega) (by omega) h8 h)), h2 x hx]
      simp [hxy]
  · rcases List.mem_append.1 hp' with h | h
    · have := h3 p h
      refine ⟨this.1, ?_⟩
      have hne : p.1 ≠ y := fun e => hnew (by rw [← e]; exact List.mem_map_of_mem h)
      rw [atKey_put_other (fun h => hne (kl_inj (by omega) (by omega) h8 h)), this.2]
    · simp at h
      subst h
      exact ⟨hy, atKey_put_same hD (kl_key y n) _ _⟩
theorem map_one {w' : World} {B n m a : Nat} (h8 : n ≤ 8) (ha : a < 2 ^ n) (ho : w'.ownsMap Try.prog 54 (plainElem (H := Unit) Try.prog 3) B m ((DataW.map []).put (kl a n) (.lit (.int .i64 0)))) : MapIs w' B n m [(a, 0)] := by
  have := map_put (y := a) (d := 0) (L := []) h8 isMap_empty (fun x hx => by simp [Maps.has]) (by simp) ha (by simp) ho
  simpa using this
/-- The entry of a map literal. -/
theorem wpList_insert_own {H : Type} {P : Program} (w : World) {ops : Array Oper} {rest : List Oper} {o : Oper} {a : Act} {Q : Exit → Act → World → Prop}
    (hg : o.guard = none) (m x v : Operand) (t : TypeId) (hop : o.op = Op.insert t m x v)
    (k e : TypeId) (K : Keyed P k) (ht : P.underlying t = some (.map k e)) (R : Value → Option (DataW H × List MemPlace)) (b n : Nat) (D : DataW H)
    (hm : a.eval m = .map (some b)) (hown : w.ownsMap P k R b n D) (hn : n < maxLen) (key val : Value) (kl : Lit) (hx : a.eval x = key) (hv : a.eval v = val) (hkey : keyOf P k key = some kl)
    (d : DataW H) (ps : List MemPlace) (hval : R val = some (d, ps))
    (hK : ∀ w', w'.ownsMap P k R b (n + 1) (D.put kl d) → w.grownBy w' (some b) → wpList P ops Q rest (a.put o.dst undef) w') :
    wpList P ops Q (o :: rest) a w := by
  refine wpList_plain hg fun K' hK' => ?_
  obtain ⟨w', hrun, r1, r2⟩ := hown.update K ht hn hkey hval
  unfold Oper.wp
  simp [execOp, hop, hm, hx, hv, hrun, Result.andThen]
  exact hK' _ _ (hK w' r1 r2)
/-- The cells of the tracks reached. -/
def tcs (n : Nat) (L : List (Nat × Nat)) : List Value := L.flatMap fun p => [.int .u16 (p.1 : Int), .int .i64 (n : Int)]
theorem tcs_snoc (n : Nat) (L : List (Nat × Nat)) (y d : Nat) : tcs n (L ++ [(y, d)]) = tcs n L ++ [.int .u16 (y : Int), .int .i64 (n : Int)] := by simp [tcs]
theorem tcs_len (n : Nat) (L : List (Nat × Nat)) : (tcs n L).length = L.length * 2 := by
  induction L with
  | nil => rfl
  | cons p r ih => simp [tcs] at ih ⊢; omega
theorem tcs_get {n : Nat} : ∀ {L : List (Nat × Nat)} {k : Nat} {c : Nat × Nat}, L[k]? = some c → (tcs n L)[k * 2]? = some (.int .u16 (c.1 : Int)) ∧ (tcs n L)[k * 2 + 1]? = some (.int .i64 (n : Int)) := by
  intro L
  induction L with
  | nil => intro k c h; simp at h
  | cons p r ih =>
    intro k c h
    cases k with
    | zero => simp at h; subst h; exact ⟨rfl, rfl⟩
    | succ k =>
      have h' : r[k]? = some c := by simpa using h
      obtain ⟨h1, h2⟩ := ih h'
      have e : tcs n (p :: r) = [.int .u16 (p.1 : Int), .int .i64 (n : Int)] ++ tcs n r := rfl
      rw [e, show (k + 1) * 2 = 2 + k * 2 by omega, show 2 + k * 2 + 1 = 2 + (k * 2 + 1) by omega]
      constructor
      · rw [List.getElem?_append_right (by simp)]; simpa using h1
      · rw [List.getElem?_append_right (by simp)]; simpa using h2
theorem slTr : SlT 58 54 2 16 (.agg #[.int .u16 0, .int .i64 0]) := ⟨Try.underlying58, info_parts (by kernel_rfl), rfl, by decide⟩

end Go.Proofs.Ytkfgimhihknpoaa
