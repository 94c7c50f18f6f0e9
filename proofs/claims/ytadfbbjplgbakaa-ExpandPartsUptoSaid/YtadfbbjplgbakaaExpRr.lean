/- Plain: what the reference's Refs tells. -/
import Derived.Test.YtadfbbjplgbakaaExpRh
import Derived.Test.YtadfbbjplgbakaaPXx7
namespace Go.Proofs.Ytadfbbjplgbakaa.Plain
open Go Go.RowKit Go.Proofs.YtadfbbjplgbakaaW.PrintWords Go.Proofs.Ytadfbbjplgbakaa.PX Go.Proofs.Ytadfbbjplgbakaa.Exp
set_option linter.unusedVariables false

theorem rRefs_ev (s : ByteArray) : Ev (fun k => smithyref06_Refs.f k s) (refsV s) := by
  unfold smithyref06_Refs.f refsV
  by_cases h : s.size ≤ 65536
  · rw [if_pos h]
    refine ev_neg (by omega) (Ev.bind (names_ev s (by omega)) ?_)
    dsimp only
    exact ev_ite (fun _ => Ev.now _) (fun _ => Ev.now _)
  · rw [if_neg h]
    exact ev_pos (by omega) (Ev.now _)
end Go.Proofs.Ytadfbbjplgbakaa.Plain
