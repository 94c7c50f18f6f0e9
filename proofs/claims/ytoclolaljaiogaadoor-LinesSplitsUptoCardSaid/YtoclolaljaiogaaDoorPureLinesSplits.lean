/- For every makefile: Split tells what the reference tells. -/
import Derived.Test.YtoclolaljaiogaaDoorLineS
import Derived.Test.YtoclolaljaiogaaDoorPXx9
namespace Go.Proofs.YtoclolaljaiogaaDoor.Pure
open Go.RowKit Go.Proofs.YtoclolaljaiogaaDoor.PX Go.Proofs.YtoclolaljaiogaaDoorW.PrintWords Go.Proofs.YtoclolaljaiogaaDoor.Plain

theorem LinesSplits (a : ByteArray × ByteArray) (hB : ((a.1.size + 1) + (a.2.size + 1) + 1) ≤ 1048576) : ∃ k, smithylaw04_LinesSplits.f k a.1 a.2 = some true := by
  refine Ev.rounds (r := true) ?_
  obtain ⟨nm, _, _, f1, f2⟩ := split_ev a.1 a.2 (by omega) (by omega)
  have hl := splitL_len a.1 a.2 nm
  exact Ev.bind f1 (Ev.bind f2 (Ev.bind (lines_ev _ (by omega)) (ev_pos rfl (ev_pos rfl (ev_pos rfl (Ev.bind small_ev (ev_some rfl)))))))
end Go.Proofs.YtoclolaljaiogaaDoor.Pure
