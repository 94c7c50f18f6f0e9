/- For every name, Dir, Base and Suffix of the package names are what the reference says of it: proved for all texts that the statement lets in. -/
import Derived.Test.YtkkealcfadbcbaaNames1
import Derived.Test.YtkkealcfadbcbaaPXx2
namespace Go.Proofs.Ytkkealcfadbcbaa.Pure
open Go.RowKit Go.Proofs.Ytkkealcfadbcbaa.PX Go.Proofs.YtkkealcfadbcbaaW.PrintWords Go.Proofs.YtkkealcfadbcbaaW.PrintLast Go.Proofs.Ytkkealcfadbcbaa.Plain

theorem NamesParts : smithylaw03_NamesParts.Pure := by
  intro s hn
  have hs : s.size ≤ 4611686018427387904 := by omega
  refine Ev.rounds (r := true) ?_
  refine Ev.bind (dir_ev s hs) (Ev.bind (rdir_ev s hs) (ev_pos rfl ?_))
  refine Ev.bind (base_ev s hs) (Ev.bind (rbase_ev s hs) (ev_pos rfl ?_))
  refine Ev.bind (suffix_ev s hs) (Ev.bind (rsuffix_ev s hs) (ev_pos rfl ?_))
  exact Ev.bind small_ev (ev_some rfl)

end Go.Proofs.Ytkkealcfadbcbaa.Pure
