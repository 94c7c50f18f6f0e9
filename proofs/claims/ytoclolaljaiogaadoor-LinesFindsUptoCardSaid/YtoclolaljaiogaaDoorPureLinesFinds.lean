/- For every makefile and number: At tells what the reference tells. -/
import Derived.Test.YtoclolaljaiogaaDoorLineS
import Derived.Test.YtoclolaljaiogaaDoorPXx0
import Derived.Test.YtoclolaljaiogaaDoorPXx9
set_option linter.unusedVariables false
namespace Go.Proofs.YtoclolaljaiogaaDoor.Pure
open Go.RowKit Go.Proofs.YtoclolaljaiogaaDoor.PX Go.Proofs.YtoclolaljaiogaaDoorW.PrintWords Go.Proofs.YtoclolaljaiogaaDoor.Plain

/-- What is told of the best line so far. -/
abbrev Rs : Type := ByteArray × Int × Bool × ByteArray × Bool × Int
def told (l : List S37) (b : Int) : Rs := if b < 0 then (⟨#[]⟩, 0, false, ⟨#[]⟩, false, 0) else ((rd_T37 l b).f0, (rd_T37 l b).f1, (rd_T37 l b).f2, (rd_T37 l b).f3, true, 0)
theorem at_go (l : List S37) (hl : l.length ≤ 65536) (no : Int) : ∀ (d i : Nat) (b : Int), i + d = l.length → -1 ≤ b → b < i → ∃ r : Rs,
    Ev (fun k => smithyref04_At.l0 k no b (i : Int) l) r ∧ Ev (fun k => lines_At.l0 k no (told l b).2.2.2.2.1 l (l.length : Int) (i : Int) (told l b).1 (told l b).2.1 (told l b).2.2.1 (told l b).2.2.2.1) r
  | 0, i, b, hi, h0, h1 => by
    refine ⟨told l b, Ev.step (fun _ => rfl) (ev_neg (by omega) ?_), Ev.step (fun _ => rfl) (ev_neg (by omega) (ev_some ?_))⟩
    · by_cases hb : b < 0
      · exact ev_pos hb (ev_some (if_pos hb).symm)
      · exact ev_neg hb (ev_pos (by omega) (ev_pos (by omega) (ev_some (if_neg hb).symm)))
    · unfold told
      by_cases hb : b < 0
      · rw [if_pos hb]
      · rw [if_neg hb]
  | d + 1, i, b, hi, h0, h1 => by
    have hw : wrap64 ((i : Int) + 1) = ((i + 1 : Nat) : Int) := wrap_1 (by omega)
    by_cases h : ((rd_T37 l (i : Int)).f1) ≤ no
    · obtain ⟨r, e1, e2⟩ := at_go l hl no d (i + 1) (i : Int) (by omega) (by omega) (by omega)
      refine ⟨r, Ev.step (fun _ => rfl) (ev_pos (by omega) (ev_pos (by omega) (ev_pos h ?_))), Ev.step (fun _ => rfl) (ev_pos (by omega) (ev_pos (by omega) (ev_pos (by omega) (ev_pos h ?_))))⟩
      · rw [hw]; exact e1
      · rw [hw]
        have et : told l (i : Int) = ((rd_T37 l (i : Int)).f0, (rd_T37 l (i : Int)).f1, (rd_T37 l (i : Int)).f2, (rd_T37 l (i : Int)).f3, true, 0) := if_neg (by omega)
        rw [et] at e2
        exact e2
    · obtain ⟨r, e1, e2⟩ := at_go l hl no d (i + 1) b (by omega) h0 (by omega)
      refine ⟨r, Ev.step (fun _ => rfl) (ev_pos (by omega) (ev_pos (by omega) (ev_neg h ?_))), Ev.step (fun _ => rfl) (ev_pos (by omega) (ev_pos (by omega) (ev_pos (by omega) (ev_neg h ?_))))⟩
      · rw [hw]; exact e1
      · rw [hw]; exact e2
theorem at_ex (n t : ByteArray) (no : Int) (hn : n.size ≤ 4611686018427387904) (ht : t.size ≤ 4611686018427387904) : ∃ r : Rs, Ev (fun k => lines_At.f k n t no) r ∧ Ev (fun k => smithyref04_At.f k n t no) r := by
  obtain ⟨nm, _, _, f1, f2⟩ := split_ev n t hn ht
  have hl := splitL_len n t nm
  by_cases h : (splitL n t nm).2.1 = 0
  · obtain ⟨r, e1, e2⟩ := at_go (splitL n t nm).1 hl no _ 0 (-1) (Nat.zero_add _) (by omega) (by omega)
    exact ⟨r, Ev.bind f1 (ev_pos h e2), Ev.bind f2 (ev_pos h e1)⟩
  · exact ⟨_, Ev.bind f1 (ev_neg h (ev_some rfl)), Ev.bind f2 (ev_neg h (ev_some rfl))⟩
theorem LinesFinds (a : ByteArray × ByteArray) (a1 : Int) (hB : ((a.1.size + 1) + (a.2.size + 1) + 1) + 1 ≤ 1048576) (w1 : (Lit.int .i64 a1).wf = true) : ∃ k, smithylaw04_LinesFinds.f k a.1 a.2 a1 = some true := by
  refine Ev.rounds (r := true) ?_
  obtain ⟨r, f1, f2⟩ := at_ex a.1 a.2 a1 (by omega) (by omega)
  exact Ev.bind f1 (Ev.bind f2 (ev_pos (by simp) (ev_pos (by simp) (ev_pos rfl (Ev.bind small_ev (ev_some rfl))))))
end Go.Proofs.YtoclolaljaiogaaDoor.Pure
