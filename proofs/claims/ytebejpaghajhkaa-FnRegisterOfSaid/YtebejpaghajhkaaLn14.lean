/-
  Lines: LineStep of the reference. No condition.
-/
import Derived.Test.YtebejpaghajhkaaLn13
import Derived.Deep.RegionHeldLaw
namespace Go.Proofs.Ytebejpaghajhkaa
open Go.RowKit
set_option linter.unusedVariables false
set_option linter.unusedSimpArgs false

/-- 'append(out, x...)' at a step of a region that draws, out an empty row of the call's own. -/
theorem step_app0 {T e size bytes : Nat} {z : Value} (S : SlT T e size bytes z) {ops : Array Oper} {o : Oper} {a : Act} {K : Act → World → Prop} {Q : Exit → Act → World → Prop} {E : Prop} (hgd : o.guard = none) (s x : Operand)
    (ho : o.op = .call { callee := .builtin .append, args := #[s, x], argTypes := #[T, T] }) (w : World) (base g : Nat) (hs : a.eval s = .slice (some ⟨g, 0, none⟩) 0 0)
    (hown : Blk w g e #[]) (hb : base ≤ g) {ad : Addr} {m d : Nat} (news : List Value) (hx : a.eval x = .slice (some ad) m d) (hl : news.length = m * size)
    (hnews : ∀ j u, news[j]? = some u → w.cell? (ad.add j) = some u) (h1 : ∀ u ∈ news, u.oneCell' = true) (h63 : m ≤ 1048576) (hby : bytes ≤ 64)
    (h : ∀ g' c' w', OwnV w' base e size g' c' m news → w.grownBy w' (some g) → (g' = g ∨ g' = w.heap.size) → K (a.put o.dst (.slice (some ⟨g', 0, none⟩) m c')) w') :
    if Region.wanted o (yielded ops a.tmps) = true then Oper.wp Try.prog o a w K Q else E := by
  have hw : Region.wanted o (yielded ops a.tmps) = true := by simp [Region.wanted, hgd]
  rw [if_pos hw]
  obtain ⟨i, hi, hz, hsz, hb'⟩ := S.info
  have hbl : g < w.heap.size := hown.lt
  have hO : OwnV w base e size g 0 0 [] := OwnV.mk' (by simp) #[] hb hown (Nat.le_refl _) (by simp [maxLen]) (by simp) (by simp)
  have hmul : (0 + m) * bytes ≤ 140737488355328 := by
    have : (0 + m) * bytes ≤ 1048576 * 64 := Nat.mul_le_mul (by omega) hby
    omega
  obtain ⟨v', w', hrun, h2, h3, h4, h5⟩ := run_append_own_at (P := Try.prog) w base T o.type e i z size bytes S.und hi hz hsz hb' S.zs S.pos _ 0 [] hO ad m d news hl hnews h1 (by unfold maxLen; omega) hmul (by omega)
  unfold Oper.wp execOp
  simp only [ho, resolve, invoke, builtin, Sem.run_bind, Sem.run_pure, Result.andThen_ok, List.map_toArray, List.map_cons, List.map_nil, hs, hx, hrun]
  rw [Nat.zero_add, List.nil_append] at h2
  rcases h2.2 with ⟨hv, _⟩ | ⟨g', cap', cur, hv, r⟩
  · have := (h4.1 hv).1
    cases this
  · subst hv
    refine h g' cap' w' h2 h3 ?_
    rcases h5 with h5 | h5
    · exact .inl (by simpa [Value.ownBlock] using h5)
    · exact .inr (by simpa [Value.ownBlock] using h5)
theorem news_bl {w : World} {b : Nat} {bs : List BV} (h : AtBl w b 0 bs) : ∀ j u, (bcells bs)[j]? = some u → w.cell? ((⟨b, 0, none⟩ : Addr).add j) = some u := by
  intro j u hu
  have hj := (List.getElem?_eq_some_iff.1 hu).1
  rw [bcells_length] at hj
  have hk : j / 3 < bs.length := by omega
  obtain ⟨q0, q1, q2⟩ := h.at0 hk
  obtain ⟨b0, b1, b2⟩ := bcells_get bs (j / 3) hk
  rw [Addr.add_lit, Nat.zero_add]
  rcases (show j = j / 3 * 3 ∨ j = j / 3 * 3 + 1 ∨ j = j / 3 * 3 + 2 by omega) with e | e | e
  · rw [e] at hu ⊢; rw [b0] at hu; rw [q0, hu]
  · rw [e] at hu ⊢; rw [b1] at hu; rw [q1, hu]
  · rw [e] at hu ⊢; rw [b2] at hu; rw [q2, hu]
theorem news_in {w : World} {b : Nat} {ts : List Int} (h : AtInts w b 0 ts) : ∀ j u, (ts.map (Value.int .i64))[j]? = some u → w.cell? ((⟨b, 0, none⟩ : Addr).add j) = some u := by
  intro j u hu
  have hj := (List.getElem?_eq_some_iff.1 hu).1
  simp at hj
  rw [Addr.add_lit, Nat.zero_add, h.at0 hj]
  simp [hj] at hu
  simp [hj, hu]
/-- Below, behind what an append into a block of the region's own leaves. -/
theorem bel_grown {w0 X Y : World} {g : Nat} (h : Below w0.heap.size w0 X) (hg : X.grownBy Y (some g)) (hB : w0.heap.size ≤ g) : Below w0.heap.size w0 Y := below_app h hg hB
theorem blk_grown {X Y : World} {g P : Nat} {T : TypeId} {cs : Array Value} (hg : X.grownBy Y (some g)) (hk : Blk X P T cs) (hne : P ≠ g) : Blk Y P T cs := hk.grown hg (fun e => hne (by injection e))
theorem ne2n (n : Nat) : (n + 1 + 1 = n) = False := eq_false (by omega)
theorem ne2m (n : Nat) : (n = n + 1 + 1) = False := eq_false (by omega)
theorem nbD {W : World} {T : TypeId} {cs : Array Value} {g : Nat} (h : Blk W g T cs) : Blk W.drew g T cs := h
theorem bsA {w0 W : World} {o : Obj} (h : Below w0.heap.size w0 W) : Below w0.heap.size w0 (W.alloc o) := below_new' h o
theorem bsD {w0 W : World} (h : Below w0.heap.size w0 W) : Below w0.heap.size w0 W.drew := h.drew
theorem bsR {w0 : World} : Below w0.heap.size w0 w0 := Below.refl _ _
theorem nbS {W : World} {T : TypeId} {cs : Array Value} {g : Nat} (h : g = W.heap.size) : Blk (W.alloc (.cells cs T)) g T cs := by subst h; exact Blk.new _ _ _
theorem nbO {W : World} {T : TypeId} {cs : Array Value} {g : Nat} {o : Obj} (h : Blk W g T cs) : Blk (W.alloc o) g T cs := h.alloc o
/-- The boxes of l4Step, the line that came in. -/
def Ls (w W : World) (b c t c' : Nat) (bs : List BV) (ts : List Int) (m : Int) (s : ByteArray) : Prop :=
  Below w.heap.size w W ∧ LnAt W w.heap.size b c t c' bs ts ∧ Blk W (w.heap.size + 1) 74 #[.int .i64 m, .string s] ∧ Blk W (w.heap.size + 2) 68 #[.slice none 0 0, .slice none 0 0]
section
variable {w W W' : World} {b c t c' : Nat} {bs : List BV} {ts : List Int} {m : Int} {s : ByteArray}
theorem Ls.step (h : Ls w W b c t c' bs ts m s) (k : Below W.heap.size W W') : Ls w W' b c t c' bs ts m s := ⟨below_to h.1 k h.1.size, h.2.1.below k, h.2.2.1.below k h.2.2.1.lt, h.2.2.2.below k h.2.2.2.lt⟩
theorem Ls.drew (h : Ls w W b c t c' bs ts m s) : Ls w W.drew b c t c' bs ts m s := ⟨h.1.drew, h.2.1, h.2.2.1, h.2.2.2⟩
theorem Ls.new (hb : b < w.heap.size) (ht : t < w.heap.size) (ha : AtBl w b 0 bs) (hi : AtInts w t 0 ts) :
    Ls w (((w.alloc (.cells #[.slice (some ⟨b, 0, none⟩) bs.length c, .slice (some ⟨t, 0, none⟩) ts.length c'] 68)).alloc (.cells #[.int .i64 m, .string s] 74)).alloc (.cells #[.slice none 0 0, .slice none 0 0] 68)) b c t c' bs ts m s := by
  have b1 := below_new w (.cells #[.slice (some ⟨b, 0, none⟩) bs.length c, .slice (some ⟨t, 0, none⟩) ts.length c'] 68)
  have L1 := LnAt.new (c := c) (c' := c') hb ht ha hi
  refine ⟨below_new' (below_new' b1 _) _, (L1.below (below_new _ _)).below (below_new _ _), ?_, ?_⟩
  · simpa using (Blk.new (w.alloc _) _ _).alloc _
  · simpa using Blk.new ((w.alloc _).alloc _) _ _
theorem Ls.box (h : Ls w W b c t c' bs ts m s) : (W.cell? ⟨w.heap.size, 0, none⟩ = some (.slice (some ⟨b, 0, none⟩) bs.length c) ∧ W.cell? ⟨w.heap.size, 1, none⟩ = some (.slice (some ⟨t, 0, none⟩) ts.length c')) ∧ W.cell? ⟨w.heap.size + 1, 0, none⟩ = some (.int .i64 m) ∧ W.cell? ⟨w.heap.size + 1, 1, none⟩ = some (.string s) :=
  ⟨⟨h.2.1.cell0, h.2.1.cell1⟩, (blkCells2 h.2.2.1).1, (blkCells2 h.2.2.1).2.1⟩
theorem Ls.zero (h : Ls w W b c t c' bs ts m s) : W.cell? ⟨w.heap.size + 1 + 1, 0, none⟩ = some (.slice none 0 0) ∧ W.cell? ⟨w.heap.size + 1 + 1, 1, none⟩ = some (.slice none 0 0) ∧ W.frozen? ⟨w.heap.size + 1 + 1, 0, none⟩ = false ∧ W.frozen? ⟨w.heap.size + 1 + 1, 1, none⟩ = false := blkCells2 h.2.2.2
theorem AtBl.far {g off : Nat} {p : Addr} (h : AtBl W g off bs) (hp : g ≠ p.block) (v : Value) : AtBl (W.setCell p v) g off bs := fun k hk => by
  obtain ⟨h0, h1, h2⟩ := h k hk
  exact ⟨(World.cell?_setCell_far W p _ v (fun e => hp e.symm)).trans h0, (World.cell?_setCell_far W p _ v (fun e => hp e.symm)).trans h1, (World.cell?_setCell_far W p _ v (fun e => hp e.symm)).trans h2⟩
theorem AtInts.far {g off : Nat} {p : Addr} (h : AtInts W g off ts) (hp : g ≠ p.block) (v : Value) : AtInts (W.setCell p v) g off ts := fun k hk => (World.cell?_setCell_far W p _ v (fun e => hp e.symm)).trans (h k hk)
theorem Ls.far (h : Ls w W b c t c' bs ts m s) (hb : b < w.heap.size) (ht : t < w.heap.size) {p : Addr} (hp : w.heap.size + 2 < p.block) (v : Value) : Ls w (W.setCell p v) b c t c' bs ts m s := by
  obtain ⟨h1, ⟨h2, h3, h4, h5, h6⟩, h7, h8⟩ := h
  refine ⟨h1.setCell (by omega) _, ⟨h2.far (by omega) _, h3.far (by omega) _, h4.far (by omega) _, by simpa using h5, by simpa using h6⟩, h7.far (by omega) _, h8.far (by omega) _⟩
end
theorem own_grown2 {w6 Y w7 : World} {base e size g d n B : Nat} {xs : List Value} (O : OwnV w6 base e size g d n xs) (hY : Below w6.heap.size w6 Y) (hg : Y.grownBy w7 (some B)) (hne : g ≠ B) : OwnV w7 base e size g d n xs :=
  (OwnV.below O hY O.lt).grown hg (fun h => hne (by injection h))
theorem blk_own_ne {W : World} {C T base e size g c n : Nat} {cs : Array Value} {xs : List Value} (h : Blk W C T cs) (k : OwnV W base e size g c n xs) (hT : T ≠ e) : C ≠ g := by
  rintro rfl
  obtain ⟨_, cur, _, hh, _⟩ := k.parts
  unfold Blk at h
  rw [h] at hh
  injection hh with hh
  injection hh with _ h2 _
  exact hT h2
theorem own_own_ne {W : World} {base e size g c n base' e' size' g' c' n' : Nat} {xs xs' : List Value} (h : OwnV W base e size g c n xs) (k : OwnV W base' e' size' g' c' n' xs') (hT : e ≠ e') : g ≠ g' := by
  rintro rfl
  obtain ⟨_, cur, _, h1, _⟩ := h.parts
  obtain ⟨_, cur', _, h2, _⟩ := k.parts
  rw [h1] at h2
  injection h2 with h2
  injection h2 with _ h3 _
  exact hT h3
/-- What stands when the new line is made. -/
def L8 (w wx : World) (b c t c' : Nat) (bs : List BV) (ts : List Int) (m : Int) (s : ByteArray) (P : Nat) (X : Array Value) (R g d g' d' : Nat) : Prop :=
  Ls w wx b c t c' bs ts m s ∧ Blk wx P 59 X ∧ Blk wx R 68 #[.slice (some ⟨g, 0, none⟩) bs.length d, .slice (some ⟨g', 0, none⟩) ts.length d'] ∧ LnO wx (w.heap.size + 3) g d g' d' bs ts ∧ P < R ∧ P < g ∧ P < g' ∧ R ≠ g ∧ R ≠ g' ∧ w.heap.size + 2 < P
theorem l8_a {w w7 : World} {b c t c' : Nat} {bs : List BV} {ts : List Int} {m : Int} {s : ByteArray} {P C base g d g' d' : Nat} {X : Array Value} (M : Ls w w7 b c t c' bs ts m s) (K : Blk w7 P 59 X) (kC : Blk w7 C 68 #[.slice none 0 0, .slice none 0 0])
    (O : OwnV w7 base 59 3 g d bs.length (bcells bs)) (O' : OwnV w7 base 3 1 g' d' ts.length (ts.map (Value.int .i64))) (hb : b < w.heap.size) (ht : t < w.heap.size) (hP : w.heap.size + 2 < P) (hPb : P < base) (hC : base ≤ C) :
    L8 w ((w7.setCell ⟨C, 0, none⟩ (.slice (some ⟨g, 0, none⟩) bs.length d)).setCell ⟨C, 1, none⟩ (.slice (some ⟨g', 0, none⟩) ts.length d')) b c t c' bs ts m s P X C g d g' d' := by
  have n1 : C ≠ g := blk_own_ne kC O (by decide)
  have n2 : C ≠ g' := blk_own_ne kC O' (by decide)
  have n3 : g ≠ g' := own_own_ne O O' (by decide)
  have l1 := O.le
  have l2 := O'.le
  refine ⟨(M.far hb ht (by show w.heap.size + 2 < C; omega) _).far hb ht (by show w.heap.size + 2 < C; omega) _, (K.far (by show P ≠ C; omega) _).far (by show P ≠ C; omega) _, ?_, ⟨?_, ?_, n3⟩, by omega, by omega, by omega, n1, n2, hP⟩
  · have := (kC.set_ 0 (.slice (some ⟨g, 0, none⟩) bs.length d)).set_ 1 (.slice (some ⟨g', 0, none⟩) ts.length d')
    simpa using this
  · exact OwnV.far (OwnV.far (OwnV.mono O (by omega)) (by show g ≠ C; omega) _) (by show g ≠ C; omega) _
  · exact OwnV.far (OwnV.far (OwnV.mono O' (by omega)) (by show g' ≠ C; omega) _) (by show g' ≠ C; omega) _
theorem l8_b {w w7 : World} {b c t c' : Nat} {bs : List BV} {ts : List Int} {m : Int} {s : ByteArray} {P base g d g' d' : Nat} {X : Array Value} (M : Ls w w7 b c t c' bs ts m s) (K : Blk w7 P 59 X)
    (O : OwnV w7 base 59 3 g d bs.length (bcells bs)) (O' : OwnV w7 base 3 1 g' d' ts.length (ts.map (Value.int .i64))) (hP : w.heap.size + 2 < P) (hPb : P < base) :
    L8 w (w7.alloc (.cells #[.slice (some ⟨g, 0, none⟩) bs.length d, .slice (some ⟨g', 0, none⟩) ts.length d'] 68)) b c t c' bs ts m s P X w7.heap.size g d g' d' := by
  have n3 : g ≠ g' := own_own_ne O O' (by decide)
  have l1 := O.le
  have l2 := O'.le
  have m1 := O.lt
  have m2 := O'.lt
  exact ⟨M.step (below_new _ _), K.alloc _, Blk.new _ _ _, ⟨(OwnV.mono O (by omega)).alloc _, (OwnV.mono O' (by omega)).alloc _, n3⟩, by omega, by omega, by omega, by omega, by omega, hP⟩
/-- What stands when the block is turned. -/
def L9 (w wx : World) (b c t c' : Nat) (bs : List BV) (ts : List Int) (m : Int) (s : ByteArray) (bn : List BV) (tn : List Int) (R g d g' d' : Nat) : Prop :=
  Ls w wx b c t c' bs ts m s ∧ Blk wx R 68 #[.slice (some ⟨g, 0, none⟩) bs.length d, .slice (some ⟨g', 0, none⟩) ts.length d'] ∧ LnO wx (w.heap.size + 3) g d g' d' bn tn ∧ bn.length = bs.length ∧ tn.length = ts.length ∧ R ≠ g ∧ R ≠ g' ∧ w.heap.size + 2 < R
theorem L8.turn {w wx : World} {b c t c' : Nat} {bs : List BV} {ts : List Int} {m : Int} {s : ByteArray} {P R g d g' d' : Nat} {X : Array Value} (h : L8 w wx b c t c' bs ts m s P X R g d g' d') (hb : b < w.heap.size) (ht : t < w.heap.size) {k : Nat} (hk : k < bs.length) (x : BV) :
    L9 w (((wx.setCell ⟨g, k * 3, none⟩ (.int .i64 x.1)).setCell ⟨g, k * 3 + 1, none⟩ (.bool x.2.1)).setCell ⟨g, k * 3 + 2, none⟩ (.bool x.2.2)) b c t c' bs ts m s (bs.set k x) ts R g d g' d' := by
  obtain ⟨h1, h2, h3, ⟨h4, h5, h6⟩, h7, h8, h9, h10, h11, h12⟩ := h
  have hg : w.heap.size + 2 < g := by omega
  exact ⟨((h1.far hb ht hg _).far hb ht hg _).far hb ht hg _, ((h3.far h10 _).far h10 _).far h10 _, ⟨h4.store k hk x, OwnV.far (OwnV.far (OwnV.far h5 (fun e => h6 e.symm) _) (fun e => h6 e.symm) _) (fun e => h6 e.symm) _, h6⟩, by simp, rfl, h10, h11, by omega⟩
theorem L9.step {w wx wy : World} {b c t c' : Nat} {bs bn : List BV} {ts tn : List Int} {m : Int} {s : ByteArray} {R g d g' d' : Nat} (h : L9 w wx b c t c' bs ts m s bn tn R g d g' d') (k : Below wx.heap.size wx wy) : L9 w wy b c t c' bs ts m s bn tn R g d g' d' :=
  ⟨h.1.step k, h.2.1.below k h.2.1.lt, h.2.2.1.below k, h.2.2.2⟩
theorem L9.train {w wx : World} {b c t c' : Nat} {bs bn : List BV} {ts tn : List Int} {m : Int} {s : ByteArray} {R g d g' d' : Nat} (h : L9 w wx b c t c' bs ts m s bn tn R g d g' d') (hb : b < w.heap.size) (ht : t < w.heap.size) (q : Nat) (v : Int) :
    L9 w (wx.setCell ⟨g', q, none⟩ (.int .i64 v)) b c t c' bs ts m s bn (tn.set q v) R g d g' d' := by
  obtain ⟨h1, h2, ⟨h3, h4, h5⟩, h6, h7, h8, h9, h10⟩ := h
  have := h4.le
  exact ⟨h1.far hb ht (by show w.heap.size + 2 < g'; omega) _, h2.far h9 _, ⟨OwnV.far h3 h5 _, h4.store q v, h5⟩, h6, by simpa using h7, h8, h9, h10⟩
theorem L9.fin {w wx : World} {b c t c' : Nat} {bs bn : List BV} {ts tn : List Int} {m : Int} {s : ByteArray} {R g d g' d' : Nat} (h : L9 w wx b c t c' bs ts m s bn tn R g d g' d') (u v : Value) :
    OwnB ((wx.setCell ⟨w.heap.size + 1 + 1, 0, none⟩ u).setCell ⟨w.heap.size + 1 + 1, 1, none⟩ v) w.heap.size g d bn ∧ Own ((wx.setCell ⟨w.heap.size + 1 + 1, 0, none⟩ u).setCell ⟨w.heap.size + 1 + 1, 1, none⟩ v) w.heap.size g' d' tn ∧ g ≠ g' := by
  obtain ⟨h1, h2, ⟨h3, h4, h5⟩, _⟩ := h
  have l3 := h3.le
  have l4 := h4.le
  exact ⟨OwnV.far (OwnV.far (OwnV.mono h3 (by omega)) (by show g ≠ w.heap.size + 1 + 1; omega) _) (by show g ≠ w.heap.size + 1 + 1; omega) _, OwnV.far (OwnV.far (OwnV.mono h4 (by omega)) (by show g' ≠ w.heap.size + 1 + 1; omega) _) (by show g' ≠ w.heap.size + 1 + 1; omega) _, h5⟩
end Go.Proofs.Ytebejpaghajhkaa
