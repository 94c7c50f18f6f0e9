/- A map from texts to places: what it answers. -/
import Derived.Test.YtkbcfbelpjifnaaSpec3
import Derived.Maps.Own
import Derived.Maps.Views
namespace Go.Proofs.Ytkbcfbelpjifnaa.Spec
open Go Go.RowKit Go.Proofs Go.Proofs.YtkbcfbelpjifnaaW.PrintWords Go.Proofs.Ytkbcfbelpjifnaa.PX Go.Proofs.Ytkbcfbelpjifnaa.Plain
open Go.WideElems (Fit)
set_option linter.unusedVariables false
set_option linter.unusedSimpArgs false

/-- The map at a block tells where a text stands in a row of texts that are all unlike. -/
def IxMap (w : World) (b : Nat) (N : List ByteArray) : Prop :=
  ∃ D : DataW Nat, w.ownsMap Try.prog 9 (plainElem Try.prog 3) b N.length D ∧
    (∀ (i : Nat) (s : ByteArray), N[i]? = some s → ∀ zd, D.atKey (.string s.data.toList) zd = .lit (.int .i64 (i : Int))) ∧
    ∀ s : ByteArray, s ∉ N → ∀ zd, D.atKey (.string s.data.toList) zd = zd
theorem IxMap.below {w w' : World} {b : Nat} {N : List ByteArray} (h : IxMap w b N) (hb : Below w.heap.size w w') : IxMap w' b N := by
  obtain ⟨D, h1, h2⟩ := h
  exact ⟨D, h1.kept (row := none) (grown_of_below hb none) (by simp), h2⟩
theorem IxMap.lt {w : World} {b : Nat} {N : List ByteArray} (h : IxMap w b N) : b < w.heap.size := by
  obtain ⟨D, h1, h2⟩ := h
  exact h1.lt
theorem IxMap.kept {w w' : World} {b : Nat} {N : List ByteArray} {row : Option Nat} (h : IxMap w b N) (hg : w.grownBy w' row) (hne : some b ≠ row) : IxMap w' b N := by
  obtain ⟨D, h1, h2⟩ := h
  exact ⟨D, h1.kept hg hne, h2⟩
theorem IxMap.made (w : World) : IxMap (w.alloc (.map #[] 0)) w.heap.size [] :=
  ⟨.map [], World.ownsMap_made w _ _ _, fun i s h => by simp at h, fun s _ zd => rfl⟩
theorem key_of (s : ByteArray) (hs : s.size ≤ maxLen) : keyOf Try.prog 9 (.string s) = some (.string s.data.toList) := by
  simp [keyOf, Try.underlying9, mapKey, hs]
/-- The text stands there. -/
theorem IxMap.hit {w : World} {b : Nat} {N : List ByteArray} (h : IxMap w b N) {i : Nat} {s : ByteArray} (hi : N[i]? = some s) (hs : s.size ≤ maxLen) :
    (Instr.lookup 47 (.map (some b)) (.string s) true).run Try.prog w = .ok (.tuple #[.int .i64 (i : Int), .bool true]) w := by
  obtain ⟨D, ⟨es, clock, hb, F, _, rfl⟩, h2, _⟩ := h
  have hz : (zeroValue 3).run Try.prog w = .ok (.int .i64 0) w := rfl
  rcases Maps.fit_look true (Maps.string_keyed Try.underlying9) Try.underlying47 hz hb F (key_of s hs) with ⟨_, _, hat⟩ | ⟨e0, y, _, _, hrun, hR, hat, _⟩
  · have a1 := (h2 i s hi (.lit (.bool true))).symm.trans (hat (.lit (.bool true)))
    cases a1
  · obtain ⟨c, hc, hy, _⟩ := plainElem_int_inv Try.underlying3 hR
    have a1 := (h2 i s hi (.lit (.bool true))).symm.trans (hat (.lit (.bool true)))
    rw [hy] at a1
    simp only [DataW.lit.injEq, Lit.int.injEq, true_and] at a1
    rw [hrun, hc, ← a1]
    simp
theorem IxMap.miss {w : World} {b : Nat} {N : List ByteArray} (h : IxMap w b N) {s : ByteArray} (hi : s ∉ N) (hs : s.size ≤ maxLen) :
    (Instr.lookup 47 (.map (some b)) (.string s) true).run Try.prog w = .ok (.tuple #[.int .i64 0, .bool false]) w := by
  obtain ⟨D, ⟨es, clock, hb, F, _, rfl⟩, _, h3⟩ := h
  have hz : (zeroValue 3).run Try.prog w = .ok (.int .i64 0) w := rfl
  rcases Maps.fit_look true (Maps.string_keyed Try.underlying9) Try.underlying47 hz hb F (key_of s hs) with ⟨hrun, _, hat⟩ | ⟨e0, y, _, _, hrun, hR, hat, _⟩
  · rw [hrun]; simp
  · have a1 := (h3 s hi (.lit (.bool true))).symm.trans (hat (.lit (.bool true)))
    have a2 := (h3 s hi (.lit (.bool false))).symm.trans (hat (.lit (.bool false)))
    rw [← a1] at a2
    cases a2
/-- A text more, at the end. -/
theorem IxMap.put {w : World} {b : Nat} {N : List ByteArray} (h : IxMap w b N) {s : ByteArray} (hi : s ∉ N) (hs : s.size ≤ maxLen) (hn : N.length < 1048576) :
    ∃ w', (Instr.mapUpdate 47 (.map (some b)) (.string s) (.int .i64 (N.length : Int))).run Try.prog w = .ok () w' ∧ IxMap w' b (N ++ [s]) ∧ w.grownBy w' (some b) := by
  obtain ⟨D, h1, h2, h3⟩ := h
  have hD : Maps.IsMap D := by
    obtain ⟨es, clock, hb, F, _, rfl⟩ := h1
    exact ⟨_, rfl⟩
  have hwf : (Lit.int .i64 (N.length : Int)).wf = true := by
    have e1 : IntKind.i64.min = -9223372036854775808 := rfl
    have e2 : IntKind.i64.max = 9223372036854775807 := rfl
    simp [Lit.wf, e1, e2]
    omega
  obtain ⟨w', hrun, hown, hg⟩ := h1.update (Maps.string_keyed Try.underlying9) Try.underlying47 (by unfold maxLen; omega) (key_of s hs) (plainElem_int Try.underlying3 hwf)
  refine ⟨w', hrun, ⟨_, by simpa using hown, fun i t ht zd => ?_, fun t ht zd => ?_⟩, hg⟩
  · by_cases hil : i < N.length
    · rw [List.getElem?_append_left hil] at ht
      have hne : t ≠ s := fun e => hi (by rw [← e]; exact List.mem_of_getElem? ht)
      rw [Maps.atKey_put_other]
      · exact h2 i t ht zd
      · intro e
        injection e with e
        exact hne (by cases t; cases s; simp at e; simp [e])
    · rw [List.getElem?_append_right (by omega)] at ht
      have h0 : i = N.length := by
        have := (List.getElem?_eq_some_iff.1 ht).1
        simp at this
        omega
      subst h0
      simp at ht
      subst ht
      exact Maps.atKey_put_same (k := .string s.data.toList) hD trivial _ _
  · simp at ht
    rw [Maps.atKey_put_other]
    · exact h3 t ht.1 zd
    · intro e
      injection e with e
      exact ht.2 (by cases t; cases s; simp at e; simp [e])
end Go.Proofs.Ytkbcfbelpjifnaa.Spec
