/- For every statement: Print tells what the reference tells. -/
import Derived.Test.YtjdielkpdnedeaaDoorStmtPrintP
import Derived.Test.YtjdielkpdnedeaaDoorStmtSmall
import Derived.Test.YtjdielkpdnedeaaDoorPXx8
namespace Go.Proofs.YtjdielkpdnedeaaDoor.Pure
open Go.RowKit Go.Proofs.YtjdielkpdnedeaaDoor.PX Go.Proofs.YtjdielkpdnedeaaDoorW.PrintWords Go.Proofs.YtjdielkpdnedeaaDoor.Plain

theorem prints (a : St) (hf : Fits 140737488351232 a) : ∃ k, smithylaw07_StmtPrints.f k a.1 a.2.1 a.2.2.1 a.2.2.2.1 a.2.2.2.2.1 a.2.2.2.2.2.1 a.2.2.2.2.2.2 = some true := by
  refine Ev.rounds (r := true) ?_
  obtain ⟨p, f1, f2, _⟩ := print_ex a hf
  exact Ev.bind f1 (Ev.bind f2 (ev_pos rfl (ev_pos rfl (Ev.bind small_ev (ev_some rfl)))))
theorem StmtPrints (a : St) (hB : (1 + (a.2.1.size + 1) + (a.2.2.1.size + 1) + (a.2.2.2.1.size + 1) + (a.2.2.2.2.1.size + 1) + (a.2.2.2.2.2.1.size + 1) + 1 + 1) ≤ 1048576) : ∃ k, smithylaw07_StmtPrints.f k a.1 a.2.1 a.2.2.1 a.2.2.2.1 a.2.2.2.2.1 a.2.2.2.2.2.1 a.2.2.2.2.2.2 = some true :=
  prints a ⟨by omega, by omega, by omega, by omega, by omega⟩
end Go.Proofs.YtjdielkpdnedeaaDoor.Pure
