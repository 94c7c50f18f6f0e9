/- For every text and some bytes: Find tells what the reference tells. -/
import Derived.Test.YtjdielkpdnedeaaDoorStmtP
import Derived.Test.YtjdielkpdnedeaaDoorStmtSmall
import Derived.Test.YtjdielkpdnedeaaDoorPXx5
namespace Go.Proofs.YtjdielkpdnedeaaDoor.Pure
open Go.RowKit Go.Proofs.YtjdielkpdnedeaaDoor.PX Go.Proofs.YtjdielkpdnedeaaDoorW.PrintWords Go.Proofs.YtjdielkpdnedeaaDoor.Plain

theorem StmtFinds (a0 a1 : ByteArray) (w0 : a0.size ≤ 140737488351232) (w1 : a1.size ≤ 140737488351232) : ∃ k, smithylaw07_StmtFinds.f k a0 a1 = some true := by
  refine Ev.rounds (r := true) ?_
  obtain ⟨r, f1, f2, _⟩ := find_ex a0 a1 (by omega) (by omega)
  exact Ev.bind f1 (Ev.bind f2 (ev_pos rfl (Ev.bind small_ev (ev_some rfl))))
end Go.Proofs.YtjdielkpdnedeaaDoor.Pure
