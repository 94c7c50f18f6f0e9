/- Plain: the reference's Check comes to the same. -/
import Derived.Test.YtadfbbjplgbakaaGreatExpQa
import Derived.Test.YtadfbbjplgbakaaGreatExpRn
import Derived.Test.YtadfbbjplgbakaaGreatPXx4
import Derived.Test.YtadfbbjplgbakaaGreatPXx5
namespace Go.Proofs.YtadfbbjplgbakaaGreat.Plain
open Go Go.RowKit Go.Proofs.YtadfbbjplgbakaaGreatW.PrintWords Go.Proofs.YtadfbbjplgbakaaGreat.PX Go.Proofs.YtadfbbjplgbakaaGreat.Exp
set_option linter.unusedVariables false

theorem rone_ev (x : Mac) (hs : x.f0.size ≤ 4611686018427387904) : Ev (fun k => smithyref05_One.f k x.f0 x.f1 x.f2) (oneV x) := by
  have hj : ∀ b, Ev (fun k => smithyref05_One.j0 k b x.f0 x.f1 x.f2) (if b = true then 51 else if x.f1.size ≤ 8192 then 0 else 41) := fun b => by
    refine Ev.step (fun _ => rfl) ?_
    refine ev_ite (fun _ => Ev.now _) (fun _ => ?_)
    by_cases h : x.f1.size ≤ 8192
    · rw [if_pos h]; exact ev_neg (by omega) (Ev.now _)
    · rw [if_neg h]; exact ev_pos (by omega) (Ev.now _)
  unfold oneV smithyref05_One.f
  refine Ev.bind (rname_ev x.f0 hs) (ev_ite (fun _ => ?_) (fun _ => Ev.now _))
  by_cases h0 : x.f2 < 0
  · rw [if_neg (by omega)]
    exact ev_pos h0 (hj true)
  · refine ev_neg h0 (ev_eq (hj _) ?_)
    by_cases h2 : x.f2 > 2
    · rw [decide_eq_true h2, if_pos rfl, if_neg (by omega)]
    · rw [decide_eq_false h2, if_neg (by decide), if_pos (show 0 ≤ x.f2 ∧ x.f2 ≤ 2 by omega)]
theorem rl1_ev (M : List Mac) (hM : M.length ≤ 256) : ∀ (d i : Nat), i + d = M.length → 0 < i → Ev (fun k => smithyref05_Check.l1 k M (i : Int)) (if riseI M d i = true then 0 else 5)
  | 0, i, hi, _ => Ev.step (fun _ => rfl) (ev_neg (by omega) (ev_some rfl))
  | d + 1, i, hi, h0 => by
    have ih := rl1_ev M hM d (i + 1) (by omega) (by omega)
    have hw : wrap64 ((i : Int) + 1) = ((i + 1 : Nat) : Int) := by rw [wrap_id (by omega) (by omega)]; omega
    have hw2 : wrap64 ((i : Int) - 1) = ((i - 1 : Nat) : Int) := by rw [wrap_id (by omega) (by omega)]; omega
    refine Ev.step (fun _ => rfl) (ev_pos (by omega) ?_)
    rw [hw2, hw, rdM_getD, rdM_getD]
    refine ev_pos (by omega) (ev_pos (by omega) (ev_pos (by omega) ?_))
    have hl : riseI M (d + 1) i = (Op.bytesLess (M.getD (i - 1) zM).f0.toList (M.getD i zM).f0.toList && riseI M d (i + 1)) := by
      show ((i == 0 || _) && _) = _
      rw [beq_eq_false_iff_ne.2 (by omega), Bool.false_or]
    rw [hl]
    by_cases hc : Op.bytesLess (M.getD (i - 1) zM).f0.toList (M.getD i zM).f0.toList = true
    · rw [hc, Bool.true_and]; exact ev_pos rfl ih
    · have hc' : Op.bytesLess (M.getD (i - 1) zM).f0.toList (M.getD i zM).f0.toList = false := by simpa using hc
      rw [hc', Bool.false_and, if_neg (by decide)]
      exact ev_neg (by decide) (Ev.now _)
theorem rl0_ev (M : List Mac) (hM : M.length ≤ 256) (hs : ∀ x ∈ M, x.f0.size ≤ 4611686018427387904) (e : Int) (he : Ev (fun k => smithyref05_Check.l1 k M 1) e) : ∀ (d i : Nat), i + d = M.length → Ev (fun k => smithyref05_Check.l0 k M M (M.length : Int) (i : Int)) (if onesV (M.drop i) = 0 then e else onesV (M.drop i))
  | 0, i, hi => by
    rw [List.drop_eq_nil_of_le (by omega)]
    exact Ev.step (fun _ => rfl) (ev_neg (by omega) he)
  | d + 1, i, hi => by
    have hlt : i < M.length := by omega
    have ih := rl0_ev M hM hs e he d (i + 1) (by omega)
    have hw : wrap64 ((i : Int) + 1) = ((i + 1 : Nat) : Int) := by rw [wrap_id (by omega) (by omega)]; omega
    have hd := drop_cons hlt
    refine Ev.step (fun _ => rfl) (ev_pos (by omega) (ev_pos (by omega) (ev_pos (by omega) ?_)))
    rw [rdM_at (List.getElem?_eq_getElem hlt), hw, hd]
    refine Ev.bind (rone_ev M[i] (hs _ (List.getElem_mem hlt))) ?_
    show Ev _ (if (if oneV M[i] = 0 then onesV (M.drop (i + 1)) else oneV M[i]) = 0 then e else (if oneV M[i] = 0 then onesV (M.drop (i + 1)) else oneV M[i]))
    by_cases h1 : oneV M[i] = 0
    · rw [if_pos h1]; exact ev_pos h1 ih
    · rw [if_neg h1, if_neg h1]; exact ev_neg h1 (Ev.now _)
theorem rcheck_ev (M : List Mac) (hs : ∀ x ∈ M, x.f0.size ≤ 4611686018427387904) : Ev (fun k => smithyref05_Check.f k M) (chkV M) := by
  unfold chkV smithyref05_Check.f
  by_cases h : M.length ≤ 256
  · rw [if_pos h]
    refine ev_neg (by omega) ?_
    refine rl0_ev M h hs _ ?_ M.length 0 (by omega)
    by_cases h0 : M.length = 0
    · obtain rfl := List.eq_nil_of_length_eq_zero h0
      exact Ev.step (fun _ => rfl) (ev_neg (by decide) (ev_some rfl))
    · obtain ⟨d, hd⟩ : ∃ d, M.length = d + 1 := ⟨M.length - 1, by omega⟩
      have := rl1_ev M h d 1 (by omega) (by decide)
      have hr : riseI M M.length 0 = riseI M d 1 := by rw [hd]; rfl
      rw [hr]
      exact this
  · rw [if_neg h]
    exact ev_pos (by omega) (Ev.now _)
end Go.Proofs.YtadfbbjplgbakaaGreat.Plain
