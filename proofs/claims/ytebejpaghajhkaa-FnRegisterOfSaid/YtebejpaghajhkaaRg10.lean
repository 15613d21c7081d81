/-
  Sound registers, the block at a minute: of the program and of the reference. No condition but lengths that fit.
-/
import Derived.Test.YtebejpaghajhkaaRg7
import Derived.Test.YtebejpaghajhkaaRg9
namespace Go.Proofs.Ytebejpaghajhkaa
open Go.RowKit
set_option linter.unusedVariables false
set_option linter.unusedSimpArgs false

/-- Whether a text is legal. -/
def legB (s : ByteArray) : Bool := decide (runV 0 s < 5)
theorem runE_form (j : Nat) : ∃ x : BV, runE j = .tuple #[.agg #[.int .i64 x.1, .bool x.2.1, .bool x.2.2], .bool (decide (j < 5))] := ⟨rst j, rfl⟩
set_option maxRecDepth 100000 in
set_option maxHeartbeats 800000 in
theorem implLegal_any (s : ByteArray) (w : World) (hs : s.size ≤ 9223372036854775807) : Calls Try.prog 86 #[.string s] w (RetB w (.bool (legB s))) := by
  have hr := fun w : World => (show Calls Try.prog 79 #[.agg #[.int .i64 0, .bool false, .bool false], .string s] w (RunE w (runV 0 s)) from implRun_any 0 s w (by omega) hs)
  unfold legB
  generalize runV 0 s = J at *
  unfold RunE at hr
  obtain ⟨x, hx⟩ := runE_form J
  rw [hx] at hr
  generalize decide (J < 5) = V at *
  have HR := Lib.hid hr
  clear hr hx
  go_enter Try.func86, Try.ntmps86
  go_wp2_with fail
  refine (HR.out _).mono ?_
  rintro e w1 ⟨rfl, hb1⟩
  have B1 := Lib.hid (below_new' hb1 (.cells #[.int .i64 x.1, .bool x.2.1, .bool x.2.2] 59))
  clear hb1
  go_wp2_with fail
  go_ret
  exact ⟨rfl, B1.out⟩
set_option maxRecDepth 100000 in
set_option maxHeartbeats 800000 in
theorem specLegal_any (s : ByteArray) (w : World) (hs : s.size ≤ 9223372036854775807) : Calls Try.prog 72 #[.string s] w (RetB w (.bool (legB s))) := by
  have hr := fun w : World => (show Calls Try.prog 78 #[.agg #[.int .i64 0, .bool false, .bool false], .string s] w (RunE w (runV 0 s)) from specRun_any 0 s w (by omega) hs)
  unfold legB
  generalize runV 0 s = J at *
  unfold RunE at hr
  obtain ⟨x, hx⟩ := runE_form J
  rw [hx] at hr
  generalize decide (J < 5) = V at *
  have HR := Lib.hid hr
  clear hr hx
  go_enter Try.func72, Try.ntmps72
  go_wp2_with fail
  refine (HR.out _).mono ?_
  rintro e w1 ⟨rfl, hb1⟩
  have B1 := Lib.hid (below_new' hb1 (.cells #[.int .i64 x.1, .bool x.2.1, .bool x.2.2] 59))
  clear hb1
  go_wp2_with fail
  go_ret
  exact ⟨rfl, B1.out⟩

/-- Whether a list is a sound register. -/
def sndB (ns : List NV) : Bool := regB ns && legB (txt ns)
theorem sndB_f {ns : List NV} (h : regB ns = false) : sndB ns = false := by unfold sndB; rw [h]; rfl
theorem sndB_t {ns : List NV} (h : regB ns = true) : sndB ns = legB (txt ns) := by unfold sndB; rw [h]; rfl
set_option maxRecDepth 100000 in
set_option maxHeartbeats 1600000 in
theorem soundOf_any (A : Option Addr) (c : Nat) (ns : List NV) (w : World) (hs : SzNt ns) (hr : RdNt w A ns) :
    Calls Try.prog 73 #[.slice A ns.length c] w (RegV w ns (sndB ns)) := by
  have HRO := Lib.hid (registerOf_any A c ns w (by have := hs.1; omega) hs.2 hr)
  clear hr hs
  cases hv : regB ns with
  | false =>
    rw [hv] at HRO
    rw [sndB_f hv]
    clear hv
    go_enter Try.func73, Try.ntmps73
    go_wp2_with fail
    refine HRO.out.mono ?_
    rintro e w1 ⟨R, rfl, hb1, _⟩
    have B1 := Lib.hid hb1
    clear hb1
    go_wp2_with fail
    go_ret2
    exact ⟨R, rfl, B1.out, fun h => by cases h⟩
  | true =>
    rw [hv] at HRO
    rw [sndB_t hv]
    have hz := txt_size hv
    have hl := reg_len hv
    have HT := Lib.hid (fun base R E w h => text_any base R E ns w hv h)
    have HLG := Lib.hid (fun w => implLegal_any (txt ns) w (by omega))
    generalize legB (txt ns) = V at *
    generalize txt ns = X at *
    clear hv hz hl
    go_enter Try.func73, Try.ntmps73
    go_wp2_with fail
    refine HRO.out.mono ?_
    rintro e w1 ⟨R, rfl, hb1, hex⟩
    obtain ⟨E, hr1⟩ := hex rfl
    have B1 := Lib.hid hb1
    have R1 := Lib.hid hr1
    clear hb1 hr1 hex
    go_wp2_with fail
    refine (HT.out _ _ _ _ R1.out).mono ?_
    rintro e w2 ⟨rfl, hb2⟩
    have B2 := Lib.hid (below_to B1.out hb2 B1.out.size)
    have R2 := Lib.hid (R1.out.below hb2)
    clear hb2
    go_wp2_with fail
    refine (HLG.out _).mono ?_
    rintro e w3 ⟨rfl, hb3⟩
    have B3 := Lib.hid (below_to B2.out hb3 B2.out.size)
    have R3 := Lib.hid (R2.out.below hb3)
    clear hb3
    go_wp2_with fail
    go_ret2
    exact ⟨R, rfl, B3.out, fun _ => ⟨E, R3.out⟩⟩
set_option maxHeartbeats 800000 in
theorem implSound_any (A : Option Addr) (c : Nat) (ns : List NV) (w : World) (hs : SzNt ns) (hr : RdNt w A ns) :
    Calls Try.prog 35 #[.slice A ns.length c] w (RetB w (.bool (sndB ns))) := by
  have HSO := Lib.hid (soundOf_any A c ns w hs hr)
  clear hr hs
  generalize sndB ns = V at *
  go_enter Try.func35, Try.ntmps35
  go_wp2_with fail
  refine HSO.out.mono ?_
  rintro e w1 ⟨R, rfl, hb1, _⟩
  have B1 := Lib.hid hb1
  clear hb1
  go_wp2_with fail
  go_ret
  exact ⟨rfl, B1.out⟩
set_option maxHeartbeats 800000 in
theorem specSound_any (A : Option Addr) (c : Nat) (ns : List NV) (w : World) (hs : SzNt ns) (hr : RdNt w A ns) :
    Calls Try.prog 34 #[.slice A ns.length c] w (RetB w (.bool (sndB ns))) := by
  have HVL := Lib.hid (specRValid_any A c ns w (by have := hs.1; omega) hs.2 hr)
  cases hv : regB ns with
  | false =>
    rw [hv] at HVL
    rw [sndB_f hv]
    clear hr hs hv
    go_enter Try.func34, Try.ntmps34
    go_wp2_with fail
    refine HVL.out.mono ?_
    rintro e w1 ⟨rfl, rfl⟩
    go_wp2_with fail
    go_ret
    exact ⟨rfl, Below.refl _ _⟩
  | true =>
    have HT := Lib.hid (l5Text_any A c ns w hv hr)
    rw [hv] at HVL
    rw [sndB_t hv]
    have hz := txt_size hv
    have hl := reg_len hv
    have HLG := Lib.hid (fun w => specLegal_any (txt ns) w (by omega))
    generalize legB (txt ns) = V at *
    generalize txt ns = X at *
    clear hr hs hv hz hl
    go_enter Try.func34, Try.ntmps34
    go_wp2_with fail
    refine HVL.out.mono ?_
    rintro e w1 ⟨rfl, rfl⟩
    go_wp2_with fail
    refine HT.out.mono ?_
    rintro e w1 ⟨rfl, rfl⟩
    go_wp2_with fail
    refine (HLG.out _).mono ?_
    rintro e w3 ⟨rfl, hb3⟩
    have B3 := Lib.hid hb3
    clear hb3
    go_wp2_with fail
    go_ret
    exact ⟨rfl, B3.out⟩

theorem news_nt {w : World} {b off : Nat} {ns : List NV} (h : AtNt w b off ns) : ∀ j u, (ncells ns)[j]? = some u → w.cell? ((⟨b, off, none⟩ : Addr).add j) = some u := by
  intro j u hu
  have hj := (List.getElem?_eq_some_iff.1 hu).1
  rw [ncells_length] at hj
  have hk : j / 2 < ns.length := by omega
  obtain ⟨q0, q1⟩ := h (j / 2) hk
  obtain ⟨b0, b1⟩ := ncells_get ns (j / 2) hk
  rw [Addr.add_lit]
  rcases (show j = j / 2 * 2 ∨ j = j / 2 * 2 + 1 by omega) with e | e
  · rw [e] at hu ⊢; rw [b0] at hu; rw [q0, hu]
  · rw [e] at hu ⊢; rw [b1] at hu; rw [← Nat.add_assoc, q1, hu]
/-- 'append(out, src...)' of notes. -/
theorem wpList_appN {ops : Array Oper} {rest : List Oper} {o : Oper} {a : Act} {Q : Exit → Act → World → Prop} (hgd : o.guard = none) (s x : Operand)
    (ho : o.op = .call { callee := .builtin .append, args := #[s, x], argTypes := #[27, 27] }) (w : World) {base g c m b off d n : Nat} {xs ys : List NV} (hs : a.eval s = .slice (some ⟨g, 0, none⟩) m c)
    (hown : OwnNm w base g c m xs) (hx : a.eval x = .slice (some ⟨b, off, none⟩) n d) (hn : n = ys.length) (hat : AtNt w b off ys) (hm : m + ys.length ≤ 1099511627776)
    (h : ∀ g' c' w', OwnNm w' base g' c' (m + n) (xs ++ ys) → w.grownBy w' (some g) → (g' = g ∨ g' = w.heap.size) → wpList Try.prog ops Q rest (a.put o.dst (.slice (some ⟨g', 0, none⟩) (m + n) c')) w') :
    wpList Try.prog ops Q (o :: rest) a w := by
  subst hn
  refine wpList_app slNt hgd s x ho w hs hown hx (news := ncells ys) (ncells_length ys) (news_nt hat) (ncells_one ys) (by unfold maxLen; omega) (by omega) ?_
  intro g' c' w' h1 h2 h3
  refine h g' c' w' ?_ h2 h3
  unfold OwnNm
  rw [ncells_app]
  exact h1
theorem AtNt.take {w : World} {b off : Nat} {ns : List NV} (h : AtNt w b off ns) (n : Nat) : AtNt w b off (ns.take n) := fun k hk => by
  simp at hk
  rw [getD_take (by omega)]
  exact h k (by omega)
set_option maxHeartbeats 1600000 in
theorem l5Until_any (b off c : Nat) (ns : List NV) (x : Int) (w : World) (hn : ns.length ≤ 1048576) (hc : ns.length ≤ c) (hc2 : c ≤ 9223372036854775807) (hb : b < w.heap.size) (ha : AtNt w b off ns) :
    Calls Try.prog 70 #[.slice (some ⟨b, off, none⟩) ns.length c, .int .i64 x] w (NewNt w (ns.take (unN ns x))) := by
  have HA := Lib.hid ha
  clear ha
  have finish : Hid (∀ k, k ≤ ns.length → unN ns x = k → (ns.take (unN ns x)).length = k) := Lib.hid (fun k hk h => by rw [h]; simp; omega)
  have HA1 : Hid (∀ k, AtNt (w.alloc (.cells #[] 48)) b off (ns.take k)) := Lib.hid (fun k => AtNt.take (HA.out.below (below_new w _) hb) k)
  have HO := Lib.hid (ownNm_empty w w.heap.size (Nat.le_refl _))
  have HB := Lib.hid (below_new w (.cells #[] 48))
  go_enter Try.func70, Try.ntmps70
  go_wp2_with fail
  go_loop [5] (fun i => ∃ k : Nat, k ≤ ns.length ∧ i = .int .i64 k ∧ Hid (unK ns x k = k)) (fun i => ns.length - (intOf i).toNat)
  case atStart => exact ⟨0, Nat.zero_le _, rfl, Lib.hid rfl⟩
  case round =>
    obtain ⟨k, hk, rfl, HU⟩ := hrel
    by_cases hlt : k < ns.length
    · obtain ⟨d0, _⟩ := HA.out k hlt
      obtain ⟨⟨m, s⟩, hx⟩ : ∃ y, ns.getD k Z2 = y := ⟨_, rfl⟩
      rw [hx] at d0
      simp only at d0
      have i1 : (k : Int) < (ns.length : Int) := by omega
      by_cases hm : m ≤ x
      · have HU2 : Hid (unK ns x (k + 1) = k + 1) := Lib.hid (unK_next HU.out (by rw [hx]; exact hm))
        clear hx
        go_wp2_with fail
        go_round
        case rel => exact ⟨k + 1, by omega, by go_num, HU2⟩
        case measure => simp [intOf]; omega
      · have hun : unN ns x = k := unK_stop HU.out (by rw [hx]; exact hm) hlt
        have HUN := Lib.hid hun
        have hl : k = (ns.take k).length := by simp; omega
        have HL := Lib.hid hl
        have i2 : k ≤ c := by omega
        clear hx hun hl
        go_wp2_with (at_builtin; refine wpList_appN rfl (.tmp 21) (.tmp 24) rfl _ rfl HO.out rfl HL.out (HA1.out k) (by rw [← HL.out]; omega) ?_; intro g' c' w' hown' hg' hat')
        go_ret
        refine ⟨g', c', ?_, ?_, below_app HB.out hg' (Nat.le_refl _)⟩
        · rw [HUN.out, ← HL.out]; simp
        · rw [HUN.out]
          have h1 : OwnNm w' w.heap.size g' c' k (ns.take k) := by simpa using hown'
          exact h1.own
    · obtain rfl : k = ns.length := by omega
      have hun : unN ns x = ns.length := HU.out
      have HUN := Lib.hid hun
      have hl : ns.length = (ns.take ns.length).length := by simp
      have HL := Lib.hid hl
      clear hun hl
      go_wp2_with (at_builtin; refine wpList_appN rfl (.tmp 21) (.tmp 24) rfl _ rfl HO.out rfl HL.out (HA1.out ns.length) (by rw [← HL.out]; omega) ?_; intro g' c' w' hown' hg' hat')
      go_ret
      refine ⟨g', c', ?_, ?_, below_app HB.out hg' (Nat.le_refl _)⟩
      · rw [HUN.out, ← HL.out]; simp
      · rw [HUN.out]
        have h1 : OwnNm w' w.heap.size g' c' ns.length (ns.take ns.length) := by simpa using hown'
        exact h1.own
end Go.Proofs.Ytebejpaghajhkaa
