/- What the laws of the special targets compare with. -/
import Derived.Test.YtkbcfbelpjifnaaSpec5
import Derived.Test.YtkbcfbelpjifnaaNames2
import Derived.Test.YtkbcfbelpjifnaaPXx0
import Derived.Test.YtkbcfbelpjifnaaPXx2
namespace Go.Proofs.Ytkbcfbelpjifnaa.Spec
open Go Go.RowKit Go.Proofs Go.Proofs.YtkbcfbelpjifnaaW.PrintWords Go.Proofs.Ytkbcfbelpjifnaa.PX Go.Proofs.Ytkbcfbelpjifnaa.Plain
set_option linter.unusedVariables false
set_option linter.unusedSimpArgs false

theorem runique_loop (l : List ByteArray) (hl : l.length < 8796093022208) : ∀ (d i : Nat) (acc : List ByteArray), i + d = l.length → acc.length ≤ i →
    Ev (fun k => smithyref03_Unique.l0 k acc l (l.length : Int) (i : Int)) (uniq acc (l.drop i))
  | 0, i, acc, hi, _ => by
    obtain rfl : i = l.length := by omega
    exact Ev.step (fun _ => rfl) (ev_neg (by omega) (ev_some (by simp [uniq])))
  | d + 1, i, acc, hi, ha => by
    have hlt : i < l.length := by omega
    rw [drop_cons hlt]
    refine Ev.step (fun _ => rfl) (ev_pos (by omega) (ev_pos (by omega) (ev_pos (by omega) (Ev.bind (has_ev acc _ (by omega)) ?_))))
    rw [rdOf_get hlt, wrap_id (by omega) (by omega)]
    by_cases hx : memB l[i] acc = true
    · refine ev_pos hx ?_
      rw [uniq, if_pos hx]
      exact runique_loop l hl d (i + 1) acc (by omega) (by omega)
    · refine ev_neg hx (ev_pos (by omega) ?_)
      rw [uniq, if_neg hx]
      exact runique_loop l hl d (i + 1) (acc ++ [l[i]]) (by omega) (by simp; omega)
theorem runique_ev (l : List ByteArray) (hl : l.length < 8796093022208) : Ev (fun k => smithyref03_Unique.f k l) (uniq [] l) := by
  have := runique_loop l hl l.length 0 [] (by omega) (by simp)
  rw [List.drop_zero] at this
  exact this
/-- The rules are the same. -/
def sameR (x y : Rl) : Bool := decide (x.f0 = y.f0) && (x.f3 == y.f3) && decide (x.f1 = y.f1) && decide (x.f2 = y.f2)
theorem sameR_iff {x y : Rl} : sameR x y = true ↔ x = y := by
  unfold sameR
  cases x; cases y
  simp [and_assoc]
  intro h
  exact ⟨fun ⟨a, b, c⟩ => ⟨b, c, a⟩, fun ⟨b, c, a⟩ => ⟨a, b, c⟩⟩
theorem rule_ev (x y : Rl) (h1 : x.f1.length ≤ 4611686018427387904) (h2 : x.f2.length ≤ 4611686018427387904) : Ev (fun k => smithyplain_Rule.f k x.f0 x.f1 x.f2 x.f3 y.f0 y.f1 y.f2 y.f3) (sameR x y) := by
  unfold sameR
  by_cases e0 : x.f0 = y.f0
  · refine ev_pos (toList_inj.2 e0) ?_
    by_cases e3 : (x.f3 == y.f3) = true
    · refine ev_pos e3 (Ev.bind (texts_ev _ _ h1) ?_)
      by_cases e1 : x.f1 = y.f1
      · refine ev_pos (by simp [e1]) (Ev.bind (texts_ev _ _ h2) (ev_some ?_))
        rw [e3]; simp [e0, e1]
      · refine ev_neg (by simp [e1]) (ev_some ?_)
        simp [e1]
    · refine ev_neg e3 (ev_some ?_)
      rw [Bool.not_eq_true] at e3
      rw [e3]; simp
  · exact ev_neg (fun h => e0 (toList_inj.1 h)) (ev_some (by simp [e0]))
theorem rd_at {xs : List Rl} {i : Nat} (h : i < xs.length) : rd_T30 xs (i : Int) = xs[i] := by
  unfold rd_T30
  simp [List.getD_eq_getElem?_getD, h]
theorem rules_loop (l : List Rl) (hl : l.length ≤ 4611686018427387904) (hf : ∀ x ∈ l, x.f1.length ≤ 4611686018427387904 ∧ x.f2.length ≤ 4611686018427387904) : ∀ (d i : Nat), i + d = l.length →
    Ev (fun k => smithyplain_Rules.l0 k l l (l.length : Int) (i : Int)) true
  | 0, i, hi => by
    obtain rfl : i = l.length := by omega
    exact Ev.step (fun _ => rfl) (ev_neg (by omega) (ev_some rfl))
  | d + 1, i, hi => by
    have hlt : i < l.length := by omega
    have hm := hf _ (List.getElem_mem hlt)
    refine Ev.step (fun _ => rfl) (ev_pos (by omega) (ev_pos (by omega) (ev_pos (by omega) (ev_pos (by omega) ?_))))
    rw [rd_at hlt, wrap_id (by omega) (by omega)]
    exact Ev.bind (rule_ev _ _ hm.1 hm.2) (ev_pos (sameR_iff.2 rfl) (rules_loop l hl hf d (i + 1) (by omega)))
theorem rules_refl (l : List Rl) (hl : l.length ≤ 4611686018427387904) (hf : ∀ x ∈ l, x.f1.length ≤ 4611686018427387904 ∧ x.f2.length ≤ 4611686018427387904) : Ev (fun k => smithyplain_Rules.f k l l) true :=
  ev_pos rfl (rules_loop l hl hf l.length 0 (by omega))
end Go.Proofs.Ytkbcfbelpjifnaa.Spec
