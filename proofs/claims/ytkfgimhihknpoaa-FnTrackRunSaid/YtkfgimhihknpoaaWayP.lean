/-
  The shortest way between two tracks, and the search that goes step by step. Plain; no condition.
-/
import Derived.Test.YtkfgimhihknpoaaTkPlain
namespace Go.Proofs.Ytkfgimhihknpoaa
set_option linter.unusedVariables false

/-- A step of a track of n circuits. -/
def StepT (n s t : Nat) : Prop := ∃ i, i < n ∧ canB s n i = true ∧ s ^^^ 2 ^ i = t
/-- So many steps lead from a to b. -/
def Reach (n : Nat) : Nat → Nat → Nat → Prop
  | 0, a, b => a = b
  | k + 1, a, b => ∃ c, StepT n a c ∧ Reach n k c b
theorem reach_snoc {n k a b c : Nat} (h : Reach n k a b) (hs : StepT n b c) : Reach n (k + 1) a c := by
  induction k generalizing a with
  | zero => cases h; exact ⟨c, hs, rfl⟩
  | succ k ih => obtain ⟨d, hd, hr⟩ := h; exact ⟨d, hd, ih hr⟩
theorem reach_last {n k a c : Nat} (h : Reach n (k + 1) a c) : ∃ b, Reach n k a b ∧ StepT n b c := by
  induction k generalizing a with
  | zero => obtain ⟨d, hd, rfl⟩ := h; exact ⟨a, rfl, hd⟩
  | succ k ih => obtain ⟨d, hd, hr⟩ := h; obtain ⟨b, hb, hs⟩ := ih hr; exact ⟨b, ⟨d, hd, hb⟩, hs⟩
/-- v is the least number of steps from a to b, or -1 where none lead there. -/
def IsWay (n a b : Nat) (v : Int) : Prop := (∃ k : Nat, v = k ∧ k ≤ 256 ∧ Reach n k a b ∧ ∀ j, Reach n j a b → k ≤ j) ∨ (v = -1 ∧ ∀ k, ¬ Reach n k a b)
theorem IsWay.uniq {n a b : Nat} {v v' : Int} (h : IsWay n a b v) (h' : IsWay n a b v') : v = v' := by
  rcases h with ⟨k, rfl, _, hr, hm⟩ | ⟨rfl, hn⟩
  · rcases h' with ⟨k', rfl, _, hr', hm'⟩ | ⟨rfl, hn'⟩
    · have := hm k' hr'
      have := hm' k hr
      omega
    · exact absurd hr (hn' k)
  · rcases h' with ⟨k', rfl, _, hr', hm'⟩ | ⟨rfl, hn'⟩
    · exact absurd hr' (hn k')
    · rfl
theorem IsWay.bd {n a b : Nat} {v : Int} (h : IsWay n a b v) : -1 ≤ v ∧ v ≤ 256 := by
  rcases h with ⟨k, rfl, hk, _⟩ | ⟨rfl, _⟩ <;> omega

theorem nodup_le (m : Nat) : ∀ l : List Nat, l.Nodup → (∀ x ∈ l, x < m) → l.length ≤ m := by
  induction m with
  | zero =>
    intro l _ h
    cases l with
    | nil => simp
    | cons x r => exact absurd (h x (by simp)) (by omega)
  | succ m ih =>
    intro l hn h
    have h1 := ih (l.erase m) (hn.erase m) (fun x hx => by
      have h2 := (hn.mem_erase_iff).1 hx
      have := h x h2.2
      omega)
    by_cases hm : m ∈ l
    · rw [List.length_erase_of_mem hm] at h1; omega
    · rw [List.erase_of_not_mem hm] at h1; omega

/-- The search behind k whole rounds: what has been reached, each with its steps. -/
structure Srch (n a b k : Nat) (L : List (Nat × Nat)) : Prop where
  head : L[0]? = some (a, 0)
  reach : ∀ p ∈ L, Reach n p.2 a p.1 ∧ p.1 < 2 ^ n
  dle : ∀ (i : Nat) (p : Nat × Nat), L[i]? = some p → p.2 ≤ i
  mono : ∀ (i j : Nat) (p q : Nat × Nat), i ≤ j → L[i]? = some p → L[j]? = some q → p.2 ≤ q.2
  top : ∀ (c p : Nat × Nat), L[k]? = some c → p ∈ L → p.2 ≤ c.2 + 1
  nodup : (L.map (·.1)).Nodup
  closed : ∀ (j : Nat) (p : Nat × Nat), j < k → L[j]? = some p → ∀ y, StepT n p.1 y → ∃ q ∈ L, q.1 = y ∧ q.2 ≤ p.2 + 1
  nob : ∀ (j : Nat) (p : Nat × Nat), j < k → L[j]? = some p → p.1 ≠ b
  kle : k ≤ L.length
/-- The search inside a round, behind i circuits. -/
structure SrchI (n a b k i : Nat) (c : Nat × Nat) (L : List (Nat × Nat)) : Prop extends Srch n a b k L where
  cur : L[k]? = some c
  done : ∀ i', i' < i → canB c.1 n i' = true → ∃ q ∈ L, q.1 = c.1 ^^^ 2 ^ i' ∧ q.2 ≤ c.2 + 1

theorem srch_start {n a : Nat} (b : Nat) (ha : a < 2 ^ n) : Srch n a b 0 [(a, 0)] where
  head := rfl
  reach := by intro p hp; simp at hp; subst hp; exact ⟨rfl, ha⟩
  dle := by intro i p h; cases i with | zero => simp at h; subst h; simp | succ i => simp at h
  mono := by
    intro i j p q hij hi hj
    cases j with
    | zero => obtain rfl : i = 0 := by omega
              rw [hi] at hj; injection hj with hj; subst hj; omega
    | succ j => simp at hj
  top := by intro c p hc hp; simp at hp; subst hp; simp
  nodup := by simp
  closed := by intro j p hj; omega
  nob := by intro j p hj; omega
  kle := by simp
theorem srchI_start {n a b k : Nat} {c : Nat × Nat} {L : List (Nat × Nat)} (h : Srch n a b k L) (hc : L[k]? = some c) : SrchI n a b k 0 c L :=
  { h with cur := hc, done := fun i hi => by omega }
theorem srchI_skip {n a b k i : Nat} {c : Nat × Nat} {L : List (Nat × Nat)} (h : SrchI n a b k i c L) (hs : canB c.1 n i = false ∨ (c.1 ^^^ 2 ^ i) ∈ L.map (·.1)) : SrchI n a b k (i + 1) c L :=
  { h with
    done := fun i' hi' hcan => by
      by_cases hlt : i' < i
      · exact h.done i' hlt hcan
      · obtain rfl : i' = i := by omega
        rcases hs with hs | hs
        · rw [hs] at hcan; cases hcan
        · obtain ⟨q, hq, he⟩ := List.mem_map.1 hs
          exact ⟨q, hq, he, h.top c q h.cur hq⟩ }
theorem srchI_add {n a b k i : Nat} {c : Nat × Nat} {L : List (Nat × Nat)} (h : SrchI n a b k i c L) (hi : i < n) (hcan : canB c.1 n i = true) (hnew : (c.1 ^^^ 2 ^ i) ∉ L.map (·.1)) :
    SrchI n a b k (i + 1) c (L ++ [(c.1 ^^^ 2 ^ i, c.2 + 1)]) := by
  have hk : k < L.length := (List.getElem?_eq_some_iff.1 h.cur).1
  have hcm : c ∈ L := List.mem_of_getElem? h.cur
  have hst : StepT n c.1 (c.1 ^^^ 2 ^ i) := ⟨i, hi, hcan, rfl⟩
  have old : ∀ j, j < L.length → (L ++ [(c.1 ^^^ 2 ^ i, c.2 + 1)])[j]? = L[j]? := fun j hj => List.getElem?_append_left hj
  have new : ∀ j p, (L ++ [(c.1 ^^^ 2 ^ i, c.2 + 1)])[j]? = some p → (j < L.length ∧ L[j]? = some p) ∨ (j = L.length ∧ p = (c.1 ^^^ 2 ^ i, c.2 + 1)) := by
    intro j p hj
    by_cases hlt : j < L.length
    · rw [old j hlt] at hj; exact .inl ⟨hlt, hj⟩
    · have hl := (List.getElem?_eq_some_iff.1 hj).1
      simp at hl
      obtain rfl : j = L.length := by omega
      simp at hj
      exact .inr ⟨rfl, hj.symm⟩
  have hcd : c.2 ≤ k := h.dle k c h.cur
  refine { head := ?_, reach := ?_, dle := ?_, mono := ?_, top := ?_, nodup := ?_, closed := ?_, nob := ?_, kle := ?_, cur := ?_, done := ?_ }
  · rw [old 0 (by omega)]; exact h.head
  · intro p hp
    rcases List.mem_append.1 hp with hp | hp
    · exact h.reach p hp
    · simp at hp; subst hp
      exact ⟨reach_snoc (h.reach c hcm).1 hst, flip_lt (h.reach c hcm).2 hi⟩
  · intro j p hj
    rcases new j p hj with ⟨_, hj⟩ | ⟨rfl, rfl⟩
    · exact h.dle j p hj
    · simp; omega
  · intro j j' p q hjj hp hq
    rcases new j p hp with ⟨_, hp⟩ | ⟨rfl, rfl⟩
    · rcases new j' q hq with ⟨_, hq⟩ | ⟨rfl, rfl⟩
      · exact h.mono j j' p q hjj hp hq
      · exact h.top c p h.cur (List.mem_of_getElem? hp)
    · rcases new j' q hq with ⟨hl, hq⟩ | ⟨rfl, rfl⟩
      · omega
      · exact Nat.le_refl _
  · intro c' p hc' hp
    rw [old k hk, h.cur] at hc'
    injection hc' with hc'
    subst hc'
    rcases List.mem_append.1 hp with hp | hp
    · exact h.top c p h.cur hp
    · simp at hp; subst hp; exact Nat.le_refl _
  · rw [List.map_append, List.map_singleton, List.nodup_append]
    refine ⟨h.nodup, by simp, ?_⟩
    intro x hx y hy
    simp at hy
    subst hy
    intro he
    subst he
    exact hnew hx
  · intro j p hj hp y hy
    rw [old j (by omega)] at hp
    obtain ⟨q, hq, he, hd⟩ := h.closed j p hj hp y hy
    exact ⟨q, List.mem_append_left _ hq, he, hd⟩
  · intro j p hj hp
    rw [old j (by omega)] at hp
    exact h.nob j p hj hp
  · simp; omega
  · rw [old k hk]; exact h.cur
  · intro i' hi' hc'
    by_cases hlt : i' < i
    · obtain ⟨q, hq, he⟩ := h.done i' hlt hc'
      exact ⟨q, List.mem_append_left _ hq, he⟩
    · obtain rfl : i' = i := by omega
      exact ⟨(c.1 ^^^ 2 ^ i', c.2 + 1), List.mem_append_right _ (by simp), rfl, Nat.le_refl _⟩
theorem srchI_end {n a b k : Nat} {c : Nat × Nat} {L : List (Nat × Nat)} (h : SrchI n a b k n c L) (hb : c.1 ≠ b) : Srch n a b (k + 1) L :=
  { h with
    top := fun c' p hc' hp => by
      have h1 := h.top c p h.cur hp
      have h2 := h.mono k (k + 1) c c' (by omega) h.cur hc'
      omega
    closed := fun j p hj hp y hy => by
      by_cases hlt : j < k
      · exact h.closed j p hlt hp y hy
      · obtain rfl : j = k := by omega
        rw [h.cur] at hp
        injection hp with hp
        subst hp
        obtain ⟨i, hi, hcan, rfl⟩ := hy
        exact h.done i hi hcan
    nob := fun j p hj hp => by
      by_cases hlt : j < k
      · exact h.nob j p hlt hp
      · obtain rfl : j = k := by omega
        rw [h.cur] at hp
        injection hp with hp
        subst hp
        exact hb
    kle := by have := (List.getElem?_eq_some_iff.1 h.cur).1; omega }
theorem srch_len {n a b k : Nat} {L : List (Nat × Nat)} (h : Srch n a b k L) (h8 : n ≤ 8) : L.length ≤ 256 := by
  have h1 := nodup_le (2 ^ n) (L.map (·.1)) h.nodup (fun x hx => by
    obtain ⟨p, hp, rfl⟩ := List.mem_map.1 hx
    exact (h.reach p hp).2)
  have := pow8 h8
  simp at h1
  omega
/-- Whatever is nearer than d lies in what has been reached, if all that lies nearer than d has had its round. -/
theorem srch_near {n a b k d : Nat} {L : List (Nat × Nat)} (h : Srch n a b k L) (hd : ∀ j p, L[j]? = some p → p.2 < d → j < k) : ∀ m x, Reach n m a x → m ≤ d → ∃ q ∈ L, q.1 = x ∧ q.2 ≤ m := by
  intro m
  induction m with
  | zero => intro x hx _; cases hx; exact ⟨(a, 0), List.mem_of_getElem? h.head, rfl, Nat.le_refl _⟩
  | succ m ih =>
    intro x hx hm
    obtain ⟨y, hy, hs⟩ := reach_last hx
    obtain ⟨q, hq, rfl, hqd⟩ := ih y hy (by omega)
    obtain ⟨j, hj⟩ := List.getElem?_of_mem hq
    obtain ⟨q', hq', he, hd'⟩ := h.closed j q (hd j q hj (by omega)) hj x hs
    exact ⟨q', hq', he, by omega⟩
theorem srch_hit {n a b k d : Nat} {L : List (Nat × Nat)} (h : Srch n a b k L) (h8 : n ≤ 8) (hk : L[k]? = some (b, d)) : IsWay n a b d := by
  have hlt := (List.getElem?_eq_some_iff.1 hk).1
  have hle := srch_len h h8
  have hdk := h.dle k _ hk
  refine .inl ⟨d, rfl, by simp at hdk; omega, (h.reach _ (List.mem_of_getElem? hk)).1, fun j hj => ?_⟩
  by_cases hjd : d ≤ j
  · exact hjd
  · have hd : ∀ i p, L[i]? = some p → p.2 < d → i < k := by
      intro i p hi hp
      by_cases hik : i < k
      · exact hik
      · have := h.mono k i _ p (by omega) hk hi
        simp at this
        omega
    obtain ⟨q, hq, he, hqd⟩ := srch_near h hd j b hj (by omega)
    obtain ⟨i, hi⟩ := List.getElem?_of_mem hq
    exact absurd he (h.nob i q (hd i q hi (by omega)) hi)
theorem srch_miss {n a b : Nat} {L : List (Nat × Nat)} (h : Srch n a b L.length L) : IsWay n a b (-1) := by
  refine .inr ⟨rfl, fun j hj => ?_⟩
  have hd : ∀ i p, L[i]? = some p → p.2 < j + 1 → i < L.length := fun i p hi _ => (List.getElem?_eq_some_iff.1 hi).1
  obtain ⟨q, hq, he, _⟩ := srch_near h hd j b hj (by omega)
  obtain ⟨i, hi⟩ := List.getElem?_of_mem hq
  exact h.nob i q (List.getElem?_eq_some_iff.1 hi).1 hi he

end Go.Proofs.Ytkfgimhihknpoaa
