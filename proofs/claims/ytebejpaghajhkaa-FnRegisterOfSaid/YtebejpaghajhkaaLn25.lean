/-
  Lines: LineRun of the implementation. No condition.
-/
import Derived.Test.YtebejpaghajhkaaLn18
namespace Go.Proofs.Ytebejpaghajhkaa
open Go.RowKit
set_option linter.unusedVariables false
set_option linter.unusedSimpArgs false

/-- A run of moves. -/
def foldI (bs : List BV) (ts : List Int) : List MV → Option (List BV × List Int)
  | [] => some (bs, ts)
  | m :: ms => match stepI bs ts m.1 m.2 with
    | none => none
    | some p => foldI p.1 p.2 ms
def runL (bs : List BV) (ts : List Int) (ms : List MV) : Option (List BV × List Int) := if lineB bs ts then foldI bs ts ms else none
def ShortL (ms : List MV) : Prop := ∀ k, k < ms.length → (ms.getD k Z2m).2.size ≤ 8
theorem foldI_drop {bs bs' : List BV} {ts ts' : List Int} {ms : List MV} {i : Nat} (hi : i < ms.length) : foldI bs ts (ms.drop i) = (match stepI bs ts (ms.getD i Z2m).1 (ms.getD i Z2m).2 with
    | none => none
    | some p => foldI p.1 p.2 (ms.drop (i + 1))) := by
  have e : ms.drop i = ms.getD i Z2m :: ms.drop (i + 1) := by
    rw [List.drop_eq_getElem_cons hi]
    congr 1
    simp [List.getD, hi]
  rw [e]
  rfl
theorem stepI_len {bs bs' : List BV} {ts ts' : List Int} {m : Int} {s : ByteArray} (h : stepI bs ts m s = some (bs', ts')) : bs'.length = bs.length ∧ ts'.length = ts.length := by
  unfold stepI at h
  split at h
  · exact stepU_len h
  · cases h

end Go.Proofs.Ytebejpaghajhkaa
