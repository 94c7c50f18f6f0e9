/- Plain: the reference's Name comes to namL. -/
import Derived.Test.YtadfbbjplgbakaaGreatExpP
import Derived.Test.YtadfbbjplgbakaaGreatPXx4
namespace Go.Proofs.YtadfbbjplgbakaaGreat.Plain
open Go Go.RowKit Go.Proofs.YtadfbbjplgbakaaGreatW.PrintWords Go.Proofs.YtadfbbjplgbakaaGreat.PX
set_option linter.unusedVariables false

theorem rname_loop (s : ByteArray) (hs : s.size ≤ 4611686018427387904) : ∀ (d i : Nat), i + d = s.size → Ev (fun k => smithyref05_Name.l0 k s (i : Int)) (((L s).drop i).all namB)
  | 0, i, hi => by
    refine Ev.step (fun _ => rfl) (ev_neg (by omega) (ev_some ?_))
    rw [List.drop_eq_nil_of_le (by rw [← size_L]; omega)]; rfl
  | d + 1, i, hi => by
    have hlt : i < (L s).length := by rw [← size_L]; omega
    obtain ⟨c, hc⟩ : ∃ c, (L s)[i]? = some c := ⟨_, List.getElem?_eq_getElem hlt⟩
    have hb : bt s (i : Int) = (c.toNat : Int) := bt_at_L hc
    have hd : (L s).drop i = c :: (L s).drop (i + 1) := by
      rw [List.drop_eq_getElem_cons hlt, (List.getElem?_eq_some_iff.1 hc).2]
    have ih := rname_loop s hs d (i + 1) (by omega)
    have hw : wrap64 ((i : Int) + 1) = ((i + 1 : Nat) : Int) := by rw [wrap_id (by omega) (by omega)]; omega
    have c95 : ((c.toNat : Int) = 95) ↔ c = 95 := ⟨fun h => u8_eq.1 (Int.ofNat.inj h), fun h => by subst h; rfl⟩
    have c46 : ((c.toNat : Int) = 46) ↔ c = 46 := ⟨fun h => u8_eq.1 (Int.ofNat.inj h), fun h => by subst h; rfl⟩
    rw [hd, List.all_cons]
    refine Ev.step (fun _ => rfl) (ev_pos (by omega) (ev_pos (by omega) ?_))
    rw [hb, hw]
    have yes : namB c = true → Ev (fun k => smithyref05_Name.l0 k s ((i + 1 : Nat) : Int)) (namB c && ((L s).drop (i + 1)).all namB) := fun h => by rw [h, Bool.true_and]; exact ih
    have no : namB c = false → Ev (fun _ => some false) (namB c && ((L s).drop (i + 1)).all namB) := fun h => by rw [h, Bool.false_and]; exact Ev.now _
    have hnam : namB c = (decide (65 ≤ c.toNat) && decide (c.toNat ≤ 90) || decide (97 ≤ c.toNat) && decide (c.toNat ≤ 122) || decide (48 ≤ c.toNat) && decide (c.toNat ≤ 57) || c == 95 || c == 46) := rfl
    have last : ¬ (65 ≤ c.toNat ∧ c.toNat ≤ 90) → ¬ (97 ≤ c.toNat ∧ c.toNat ≤ 122) → ¬ (48 ≤ c.toNat ∧ c.toNat ≤ 57) → Ev (fun k => if (c.toNat : Int) = 95 then smithyref05_Name.l0 k s ((i + 1 : Nat) : Int) else if (c.toNat : Int) = 46 then smithyref05_Name.l0 k s ((i + 1 : Nat) : Int) else some false) (namB c && ((L s).drop (i + 1)).all namB) := fun h1 h2 h3 => by
      refine ev_ite2 (fun h => yes ?_) (fun h => ev_ite2 (fun h' => yes ?_) (fun h' => no ?_))
      · have := c95.1 h; rw [this]; rfl
      · have := c46.1 h'; rw [this]; rfl
      · rw [hnam]
        have h5 : (c == 95) = false := beq_eq_false_iff_ne.2 (fun e => h (c95.2 e))
        have h6 : (c == 46) = false := beq_eq_false_iff_ne.2 (fun e => h' (c46.2 e))
        rw [h5, h6]
        simp only [Bool.or_false, Bool.or_eq_false_iff, Bool.and_eq_false_iff, decide_eq_false_iff_not]
        omega
    have dig : ¬ (65 ≤ c.toNat ∧ c.toNat ≤ 90) → ¬ (97 ≤ c.toNat ∧ c.toNat ≤ 122) → Ev (fun k => if (c.toNat : Int) ≥ 48 then (if (c.toNat : Int) ≤ 57 then smithyref05_Name.l0 k s ((i + 1 : Nat) : Int) else if (c.toNat : Int) = 95 then smithyref05_Name.l0 k s ((i + 1 : Nat) : Int) else if (c.toNat : Int) = 46 then smithyref05_Name.l0 k s ((i + 1 : Nat) : Int) else some false) else if (c.toNat : Int) = 95 then smithyref05_Name.l0 k s ((i + 1 : Nat) : Int) else if (c.toNat : Int) = 46 then smithyref05_Name.l0 k s ((i + 1 : Nat) : Int) else some false) (namB c && ((L s).drop (i + 1)).all namB) := fun h1 h2 => by
      refine ev_ite2 (fun h => ev_ite2 (fun h' => yes ?_) (fun h' => last h1 h2 (by omega))) (fun h => last h1 h2 (by omega))
      rw [hnam]; simp; omega
    have low : ¬ (65 ≤ c.toNat ∧ c.toNat ≤ 90) → Ev (fun k => if (c.toNat : Int) ≥ 97 then (if (c.toNat : Int) ≤ 122 then smithyref05_Name.l0 k s ((i + 1 : Nat) : Int) else if (c.toNat : Int) ≥ 48 then (if (c.toNat : Int) ≤ 57 then smithyref05_Name.l0 k s ((i + 1 : Nat) : Int) else if (c.toNat : Int) = 95 then smithyref05_Name.l0 k s ((i + 1 : Nat) : Int) else if (c.toNat : Int) = 46 then smithyref05_Name.l0 k s ((i + 1 : Nat) : Int) else some false) else if (c.toNat : Int) = 95 then smithyref05_Name.l0 k s ((i + 1 : Nat) : Int) else if (c.toNat : Int) = 46 then smithyref05_Name.l0 k s ((i + 1 : Nat) : Int) else some false) else if (c.toNat : Int) ≥ 48 then (if (c.toNat : Int) ≤ 57 then smithyref05_Name.l0 k s ((i + 1 : Nat) : Int) else if (c.toNat : Int) = 95 then smithyref05_Name.l0 k s ((i + 1 : Nat) : Int) else if (c.toNat : Int) = 46 then smithyref05_Name.l0 k s ((i + 1 : Nat) : Int) else some false) else if (c.toNat : Int) = 95 then smithyref05_Name.l0 k s ((i + 1 : Nat) : Int) else if (c.toNat : Int) = 46 then smithyref05_Name.l0 k s ((i + 1 : Nat) : Int) else some false) (namB c && ((L s).drop (i + 1)).all namB) := fun h1 => by
      refine ev_ite2 (fun h => ev_ite2 (fun h' => yes ?_) (fun h' => dig h1 (by omega))) (fun h => dig h1 (by omega))
      rw [hnam]; simp; omega
    refine ev_ite2 (fun h => ev_ite2 (fun h' => yes ?_) (fun h' => low (by omega))) (fun h => low (by omega))
    rw [hnam]; simp; omega
theorem rname_ev (s : ByteArray) (hs : s.size ≤ 4611686018427387904) : Ev (fun k => smithyref05_Name.f k s) (namL (L s)) := by
  have hj : ∀ b, Ev (fun k => smithyref05_Name.j0 k s b) (if b = true then false else (L s).all namB) := fun b => by
    refine Ev.step (fun _ => rfl) (ev_ite (fun _ => Ev.now _) (fun _ => ?_))
    have := rname_loop s hs s.size 0 (by omega)
    rw [List.drop_zero] at this
    exact this
  unfold namL
  rw [← size_L]
  by_cases h1 : (s.size : Int) < 1
  · refine ev_pos h1 (ev_eq (hj true) ?_)
    rw [if_pos rfl, decide_eq_false (by omega)]; rfl
  · refine ev_neg h1 (ev_eq (hj _) ?_)
    by_cases h2 : (s.size : Int) > 64
    · rw [decide_eq_true h2, if_pos rfl, decide_eq_true (show 0 < s.size by omega), decide_eq_false (show ¬ s.size ≤ 64 by omega)]; rfl
    · rw [decide_eq_false h2, if_neg (by decide), decide_eq_true (show 0 < s.size by omega), decide_eq_true (show s.size ≤ 64 by omega)]; rfl
end Go.Proofs.YtadfbbjplgbakaaGreat.Plain
