/- For every text: Parse tells what the reference tells. -/
import Derived.Test.YtjdielkpdnedeaaDoorStmtP
import Derived.Test.YtjdielkpdnedeaaDoorStmtSmall
import Derived.Test.YtjdielkpdnedeaaDoorPXx7
namespace Go.Proofs.YtjdielkpdnedeaaDoor.Pure
open Go.RowKit Go.Proofs.YtjdielkpdnedeaaDoor.PX Go.Proofs.YtjdielkpdnedeaaDoorW.PrintWords Go.Proofs.YtjdielkpdnedeaaDoor.Plain

theorem StmtParses (a0 : ByteArray) (w0 : a0.size ≤ 140737488351232) : ∃ k, smithylaw07_StmtParses.f k a0 = some true := by
  refine Ev.rounds (r := true) ?_
  obtain ⟨s, _, _, f1, f2⟩ := parse_ex a0 (by omega)
  exact Ev.bind f1 (Ev.bind f2 (ev_pos (by simp) (ev_pos rfl (Ev.bind small_ev (ev_some rfl)))))
end Go.Proofs.YtjdielkpdnedeaaDoor.Pure
