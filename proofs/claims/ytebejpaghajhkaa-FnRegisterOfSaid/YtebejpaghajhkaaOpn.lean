/-
  The arguments of the laws opened: a line, a move, a list of notes, a list of moves. No condition.
-/
import Derived.Test.YtebejpaghajhkaaInts
import Derived.Deep.Slices
import Derived.Deep.Fields
import Derived.ChangeSame
import Derived.Lib.SmallJoins
namespace Go.Proofs.Ytebejpaghajhkaa
open Go.Joins Go.ChangeShapes Go.WideShapes Go.RowKit Go.Deep
set_option linter.unusedVariables false

theorem list_of {α : Type} (d : α) {P : Nat → α → Prop} {n : Nat} (h : ∀ i, i < n → ∃ x, P i x) : ∃ xs : List α, xs.length = n ∧ ∀ i, i < n → P i (xs.getD i d) := by
  classical
  refine ⟨(List.range n).map fun i => if hi : i < n then Classical.choose (h i hi) else d, by simp, fun i hi => ?_⟩
  have e : ((List.range n).map fun i => if hi : i < n then Classical.choose (h i hi) else d).getD i d = Classical.choose (h i hi) := by simp [List.getD, hi]
  rw [e]
  exact Classical.choose_spec (h i hi)
theorem add_plain {w : World} {a : Addr} {v : Value} (h : w.cell? (a.add 0) = some v) : ∃ b off, a = ⟨b, off, none⟩ ∧ b < w.heap.size := by
  obtain ⟨b, off, spot⟩ := a
  have hs : spot = none := by
    have := World.cell?_spot h
    simpa [Addr.add] using this
  subst hs
  refine ⟨b, off, rfl, ?_⟩
  rcases Nat.lt_or_ge b w.heap.size with h' | h'
  · exact h'
  · rw [Addr.add_lit] at h
    simp [World.cell?, Array.getElem?_eq_none h'] at h

section
variable {H : Type} {P : Program} {w : World} {base : Nat} {spare : Nat → Bool} {held : Bool} {enc : TypeId × Value → H}
theorem open_slice_fields {t e : TypeId} {fs : Array Field} {fuel : Nat} {cs : List Value} {x : DataW H × List MemPlace} (ht : P.underlying t = some (.slice e)) (he : P.underlying e = some (.struct fs))
    (hone : oneCellFields P fs = true) (hC : P.cellsOf e = fs.size) (h : DataW.trod enc P w base spare held fuel t cs = some x) :
    (cs = [.slice none 0 0] ∧ x = (.nil, [])) ∨
    ∃ (a : Addr) (len cap m : Nat) (D : Nat → DataW H) (Pl : Nat → List MemPlace), cs = [.slice (some a) len cap] ∧ base ≤ a.block ∧ len ≤ cap ∧ cap ≤ maxLen ∧ m = (if spare a.block then cap else len) ∧
      x = (.slice ((List.range len).map D) ((List.range (m - len)).map fun j => D (len + j)), MemPlace.row a (m * fs.size) ++ (List.range m).flatMap Pl) ∧
      ∀ i, i < m → ∃ (ys : List (DataW H × List MemPlace)) (n : Nat), D i = .agg (ys.map (·.1)) ∧ Pl i = ys.flatMap (·.2) ∧ ys.length = fs.size ∧
        ∀ (j : Nat) (f : Field), fs[j]? = some f → ∃ (v : Value) (y : DataW H × List MemPlace), w.cell? (a.add (i * fs.size + j)) = some v ∧ ys[j]? = some y ∧ DataW.trod enc P w base spare held n f.type [v] = some y := by
  rcases open_slice ht h with h0 | ⟨a, len, cap, m, n, D, Pl, hcs, hb, hl, hm, hmm, hx, hi⟩
  · exact .inl h0
  · refine .inr ⟨a, len, cap, m, D, Pl, hcs, hb, hl, hm, hmm, by rw [hC] at hx; exact hx, fun i him => ?_⟩
    obtain ⟨cs', hc, ht'⟩ := hi i him
    rw [hC] at hc
    obtain ⟨ys, n', hn', hy, hlen, hyl, hf⟩ := DataW.trod_struct he ht'
    obtain ⟨_, hcl, hat⟩ := World.cells?_some hc
    simp only [Prod.mk.injEq] at hy
    refine ⟨ys, n', hy.1, hy.2, hyl, fun j f hj => ?_⟩
    obtain ⟨ho, hk⟩ := hone_of hone j f hj
    have hjl : j < fs.size := (Array.getElem?_eq_some_iff.1 hj).1
    have hcell := hat j hjl
    have hv : cs'[j]? = some (cs'[j]'(by omega)) := List.getElem?_eq_getElem (by omega)
    have h1 := hf j f hj
    rw [ho, hk] at h1
    have hone' : (cs'.drop j).take 1 = [cs'[j]'(by omega)] := by
      rw [List.drop_eq_getElem_cons (by omega)]
      rfl
    rw [hone'] at h1
    have hys : ys[j]? = some (ys[j]'(by omega)) := List.getElem?_eq_getElem (by omega)
    refine ⟨_, _, ?_, hys, h1.trans hys⟩
    rw [← Go.Deep.add_add, hcell, hv]
end

section
variable {H : Type} {enc : TypeId × Value → H} {w : World} {r : Reach} {b0 base : Nat} {spare : Nat → Bool} {held : Bool}

theorem arg_ints {fuel : Nat} {cs : List Value} {x : DataW H × List MemPlace} (h : DataW.trod enc Try.prog w base spare held fuel 24 cs = some x) : ∃ A cap zs, cs = [.slice A (List.length zs) cap] ∧ ArgInts w A zs := by
  rcases open_ints Try.underlying24 Try.underlying3 (by kernel_rfl) h with ⟨rfl, _⟩ | ⟨a, len, cap, zs, rfl, _, hl, hm, hz, _, hcell, hwz⟩
  · exact ⟨none, 0, [], rfl, argInts_nil w⟩
  · have hml : len ≤ zs.length := by rw [hz]; split <;> omega
    have hmx : zs.length ≤ maxLen := by rw [hz]; split <;> omega
    have hcap : len ≤ maxLen := by omega
    refine ⟨some a, cap, zs.take len, by simp [Nat.min_eq_left hml], fun hp => ?_, fun z hzm => ?_, by unfold maxLen at hmx; simp; omega⟩
    · simp at hp
      have hc0 := hcell 0 (by omega)
      obtain ⟨b, off, rfl, hb⟩ := add_plain hc0
      refine ⟨b, off, rfl, hb, fun k hk => ?_⟩
      simp at hk
      have h1 := hcell k (by omega)
      rw [Addr.add_lit] at h1
      rw [h1]
      simp [List.getD, show k < len by omega]
    · have := hwz z (List.mem_of_mem_take hzm)
      simp [Lit.wf, IntKind.min, IntKind.max, IntKind.signed, IntKind.bits] at this
      omega



/-- A note: minute, letter. -/
abbrev NV := Int × ByteArray
abbrev Z2 : NV := (0, ByteArray.empty)
def AtNt (w : World) (g off : Nat) (ns : List NV) : Prop := ∀ k, k < ns.length → w.cell? ⟨g, off + k * 2, none⟩ = some (.int .i64 (ns.getD k Z2).1) ∧ w.cell? ⟨g, off + k * 2 + 1, none⟩ = some (.string (ns.getD k Z2).2)
def RdNt (w : World) (A : Option Addr) (ns : List NV) : Prop := 0 < ns.length → ∃ b off, A = some ⟨b, off, none⟩ ∧ b < w.heap.size ∧ AtNt w b off ns
def ArgNt (w : World) (A : Option Addr) (ns : List NV) : Prop := RdNt w A ns ∧ (∀ k, k < ns.length → (-9223372036854775808 ≤ (ns.getD k Z2).1 ∧ (ns.getD k Z2).1 ≤ 9223372036854775807) ∧ (ns.getD k Z2).2.size ≤ 9223372036854775807) ∧ ns.length ≤ 9223372036854775807
set_option maxRecDepth 100000 in
theorem arg_notes {v : Value} {d : DataW H} {p : List MemPlace} (hv : Value.okWide Try.prog w r b0 35 v) (h : DataW.Trod enc Try.prog w base spare held 35 v d p) : ∃ A cap ns, v = .slice A (List.length ns) cap ∧ ArgNt w A ns := by
  obtain ⟨a0, len0, cap0, rfl⟩ := okWide_slice Try.underlying35 hv
  obtain ⟨fuel, hf0⟩ := h
  rcases open_slice_fields Try.underlying35 Try.underlying94 (by kernel_rfl) (by kernel_rfl) hf0 with ⟨hcs, _⟩ | ⟨a, len, cap, m, D, Pl, hcs, _, hl, hm, hmm, _, hf⟩
  · simp [Value.cells] at hcs
    obtain ⟨rfl, rfl, rfl⟩ := hcs
    exact ⟨none, 0, [], rfl, fun h => absurd h (by simp), fun k h => absurd h (by simp), by simp⟩
  · simp [Value.cells] at hcs
    obtain ⟨rfl, rfl, rfl⟩ := hcs
    have hml : len0 ≤ m := by rw [hmm]; split <;> omega
    obtain ⟨ns, hbl, hbs⟩ := list_of (Z2 : NV) (n := len0) (P := fun i b => (w.cell? (a.add (i * 2)) = some (.int .i64 b.1) ∧ w.cell? (a.add (i * 2 + 1)) = some (.string b.2)) ∧ (-9223372036854775808 ≤ b.1 ∧ b.1 ≤ 9223372036854775807) ∧ b.2.size ≤ 9223372036854775807) (by
      intro i hi
      obtain ⟨ys, n, _, _, _, hff⟩ := hf i (by omega)
      obtain ⟨v0, y0, c0, _, t0⟩ := hff 0 _ rfl
      obtain ⟨v1, y1, c1, _, t1⟩ := hff 1 _ rfl
      obtain ⟨n0, e0, _, hw⟩ := DataW.trod_int Try.underlying3 t0
      obtain ⟨n1, e1, _, hs⟩ := DataW.trod_string Try.underlying9 t1
      simp at e0 e1
      subst e0 e1
      refine ⟨(n0, n1), ⟨c0, c1⟩, ?_, by unfold maxLen at hs; simpa using Nat.le_trans hs (by omega)⟩
      simp [Lit.wf, IntKind.min, IntKind.max, IntKind.signed, IntKind.bits] at hw
      simp only
      omega)
    subst hbl
    refine ⟨some a, cap0, ns, rfl, fun hp => ?_, fun k hk => (hbs k hk).2, by unfold maxLen at hm; omega⟩
    obtain ⟨b, off, rfl, hb⟩ := add_plain (show w.cell? (a.add 0) = _ from (hbs 0 hp).1.1)
    refine ⟨b, off, rfl, hb, fun k hk => ?_⟩
    have := (hbs k hk).1
    simp only [Addr.add_lit] at this
    exact this
end
end Go.Proofs.Ytebejpaghajhkaa
