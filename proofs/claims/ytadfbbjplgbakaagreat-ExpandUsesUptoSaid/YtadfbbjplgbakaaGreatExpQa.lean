/- Plain: what every law of the layer reads; what macro.Check comes to. -/
import Derived.Test.YtadfbbjplgbakaaGreatExp6
import Derived.Test.YtadfbbjplgbakaaGreatExp6
import Derived.Test.YtadfbbjplgbakaaGreatNames2X
import Derived.Test.YtadfbbjplgbakaaGreatPXx0
import Derived.Test.YtadfbbjplgbakaaGreatPXx1
import Derived.Test.YtadfbbjplgbakaaGreatPXx2
import Derived.Test.YtadfbbjplgbakaaGreatPXx11
namespace Go.Proofs.YtadfbbjplgbakaaGreat.Plain
open Go Go.RowKit Go.Proofs.YtadfbbjplgbakaaGreatW.PrintWords Go.Proofs.YtadfbbjplgbakaaGreat.PX Go.Proofs.YtadfbbjplgbakaaGreat.Exp
set_option linter.unusedVariables false

set_option maxRecDepth 100000 in
theorem speaks_ev : Ev (fun k => smithylaw06_speaks.f k) true := Ev.of (fun k => smithylaw06_speaks.mono k) (k := 12) (by decide +kernel)

/-! ### Check -/
/-- What is wrong with a macro. -/
def oneV (x : Mac) : Int := if namL (L x.f0) = true then (if 0 ≤ x.f2 ∧ x.f2 ≤ 2 then (if x.f1.size ≤ 8192 then 0 else 41) else 51) else 50
theorem one_ev (x : Mac) (hs : x.f0.size ≤ 9223372036854775807) : Ev (fun k => macro_one.f k x.f0 x.f1 x.f2) (oneV x) := by
  have hn : macro_Name.f x.f0 = some (namL (L x.f0)) := by unfold macro_Name.f; rw [if_pos hs, name_eq]
  have hj : ∀ b, Ev (fun k => macro_one.j0 k b x.f0 x.f1 x.f2) (if b = true then 51 else if x.f1.size ≤ 8192 then 0 else 41) := fun b => by
    refine Ev.step (fun _ => rfl) ?_
    refine ev_ite (fun _ => Ev.now _) (fun _ => ?_)
    by_cases h : x.f1.size ≤ 8192
    · rw [if_pos h]; exact ev_neg (by omega) (Ev.now _)
    · rw [if_neg h]; exact ev_pos (by omega) (Ev.now _)
  unfold oneV macro_one.f
  refine ev_const hn (ev_ite (fun _ => ?_) (fun _ => Ev.now _))
  by_cases h0 : x.f2 < 0
  · rw [if_neg (by omega)]
    exact ev_pos h0 (hj true)
  · refine ev_neg h0 (ev_eq (hj _) ?_)
    by_cases h2 : x.f2 > 2
    · rw [decide_eq_true h2, if_pos rfl, if_neg (by omega)]
    · rw [decide_eq_false h2, if_neg (by decide), if_pos (show 0 ≤ x.f2 ∧ x.f2 ≤ 2 by omega)]
/-- What is wrong with some macros, the first of them. -/
def onesV : List Mac → Int
  | [] => 0
  | x :: t => if oneV x = 0 then onesV t else oneV x
/-- Do the names rise, d of them from i on? -/
def riseI (M : List Mac) : Nat → Nat → Bool
  | 0, _ => true
  | d + 1, i => (i == 0 || Op.bytesLess (M.getD (i - 1) zM).f0.toList (M.getD i zM).f0.toList) && riseI M d (i + 1)
/-- What is wrong with a list of macros. -/
def chkV (M : List Mac) : Int := if M.length ≤ 256 then (if onesV M = 0 then (if riseI M M.length 0 = true then 0 else 5) else onesV M) else 2
theorem less_cmp : ∀ (a b : List UInt8), Op.bytesLess a b = decide (Lib.compareBytes a b < 0)
  | [], [] => rfl
  | [], _ :: _ => rfl
  | _ :: _, [] => rfl
  | a :: x, b :: y => by
    unfold Op.bytesLess Lib.compareBytes
    rw [less_cmp x y]
    by_cases h1 : a < b
    · rw [decide_eq_true h1, if_pos h1]; rfl
    · rw [decide_eq_false h1, if_neg h1, Bool.false_or]
      by_cases h2 : b < a
      · rw [if_pos h2]
        have : (a == b) = false := beq_eq_false_iff_ne.2 (fun e => by subst e; exact h1 h2)
        rw [this]; rfl
      · rw [if_neg h2]
        have : a = b := UInt8.toNat_inj.1 (Nat.le_antisymm (Nat.le_of_not_lt (fun h => h2 h)) (Nat.le_of_not_lt (fun h => h1 h)))
        rw [this]; simp
theorem rdM_getD (M : List Mac) (i : Nat) : rd_T42 M (i : Int) = M.getD i zM := by
  unfold rd_T42
  rw [Int.toNat_natCast]
  rfl
theorem l1_ev (M : List Mac) (hM : M.length ≤ 256) : ∀ (d i : Nat), i + d = M.length → Ev (fun k => macro_Check.l1 k M (M.length : Int) (i : Int)) (if riseI M d i = true then 0 else 5)
  | 0, i, hi => Ev.step (fun _ => rfl) (ev_neg (by omega) (ev_some rfl))
  | d + 1, i, hi => by
    have ih := l1_ev M hM d (i + 1) (by omega)
    have hw : wrap64 ((i : Int) + 1) = ((i + 1 : Nat) : Int) := by rw [wrap_id (by omega) (by omega)]; omega
    refine Ev.step (fun _ => rfl) (ev_pos (by omega) ?_)
    by_cases h0 : i = 0
    · subst h0
      refine ev_neg (by omega) ?_
      rw [hw]
      exact ih
    · have hw2 : wrap64 ((i : Int) - 1) = ((i - 1 : Nat) : Int) := by rw [wrap_id (by omega) (by omega)]; omega
      refine ev_pos (by omega) ?_
      rw [hw2, hw, rdM_getD, rdM_getD]
      refine ev_pos (by omega) (ev_pos (by omega) (ev_pos (by omega) (ev_pos (by omega) ?_)))
      have hc : macro_byName.f (M.getD (i - 1) zM).f0 (M.getD (i - 1) zM).f1 (M.getD (i - 1) zM).f2 (M.getD i zM).f0 (M.getD i zM).f1 (M.getD i zM).f2 = some (Lib.compareBytes (L (M.getD (i - 1) zM).f0) (L (M.getD i zM).f0)) := rfl
      have hl : riseI M (d + 1) i = (decide (Lib.compareBytes (L (M.getD (i - 1) zM).f0) (L (M.getD i zM).f0) < 0) && riseI M d (i + 1)) := by
        show ((i == 0 || _) && _) = _
        rw [beq_eq_false_iff_ne.2 h0, Bool.false_or, less_cmp, toList_L, toList_L]
      rw [hl]
      refine ev_const hc ?_
      by_cases hcmp : Lib.compareBytes (L (M.getD (i - 1) zM).f0) (L (M.getD i zM).f0) < 0
      · rw [decide_eq_true hcmp, Bool.true_and]
        exact ev_neg (by omega) ih
      · rw [decide_eq_false hcmp, Bool.false_and, if_neg (by decide)]
        exact ev_pos (by omega) (Ev.now _)
theorem l0_ev (M : List Mac) (hM : M.length ≤ 256) (hs : ∀ x ∈ M, x.f0.size ≤ 4611686018427387904) (e : Int) (he : Ev (fun k => macro_Check.l1 k M (M.length : Int) 0) e) : ∀ (d i : Nat), i + d = M.length → Ev (fun k => macro_Check.l0 k M M (M.length : Int) (i : Int)) (if onesV (M.drop i) = 0 then e else onesV (M.drop i))
  | 0, i, hi => by
    rw [List.drop_eq_nil_of_le (by omega)]
    exact Ev.step (fun _ => rfl) (ev_neg (by omega) he)
  | d + 1, i, hi => by
    have hlt : i < M.length := by omega
    have ih := l0_ev M hM hs e he d (i + 1) (by omega)
    have hw : wrap64 ((i : Int) + 1) = ((i + 1 : Nat) : Int) := by rw [wrap_id (by omega) (by omega)]; omega
    have hd := drop_cons hlt
    refine Ev.step (fun _ => rfl) (ev_pos (by omega) (ev_pos (by omega) (ev_pos (by omega) ?_)))
    rw [rdM_at (List.getElem?_eq_getElem hlt), hw, hd]
    refine Ev.bind (one_ev M[i] (Nat.le_trans (hs _ (List.getElem_mem hlt)) (by decide))) ?_
    show Ev _ (if (if oneV M[i] = 0 then onesV (M.drop (i + 1)) else oneV M[i]) = 0 then e else (if oneV M[i] = 0 then onesV (M.drop (i + 1)) else oneV M[i]))
    by_cases h1 : oneV M[i] = 0
    · rw [if_pos h1]; exact ev_pos h1 ih
    · rw [if_neg h1, if_neg h1]; exact ev_neg h1 (Ev.now _)
theorem check_ev (M : List Mac) (hs : ∀ x ∈ M, x.f0.size ≤ 4611686018427387904) : Ev (fun k => macro_Check.f k M) (chkV M) := by
  unfold chkV macro_Check.f
  by_cases h : M.length ≤ 256
  · rw [if_pos h]
    refine ev_neg (by omega) ?_
    exact l0_ev M h hs _ (l1_ev M h M.length 0 (by omega)) M.length 0 (by omega)
  · rw [if_neg h]
    exact ev_pos (by omega) (Ev.now _)
end Go.Proofs.YtadfbbjplgbakaaGreat.Plain
