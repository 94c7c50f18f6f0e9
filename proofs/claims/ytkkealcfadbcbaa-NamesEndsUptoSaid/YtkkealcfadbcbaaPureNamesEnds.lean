/- For every text and two ends, Stem and Swap of the package names are what the reference says of them (texts of a bulk of at most 1048576). -/
import Derived.Test.YtkkealcfadbcbaaNames1
import Derived.Test.YtkkealcfadbcbaaSwapP
import Derived.Test.YtkkealcfadbcbaaOpens
import Derived.Test.YtkkealcfadbcbaaPXx7
namespace Go.Proofs.Ytkkealcfadbcbaa.Pure
open Go.RowKit Go.Proofs.Ytkkealcfadbcbaa.PX Go.Proofs.YtkkealcfadbcbaaW.PrintWords Go.Proofs.Ytkkealcfadbcbaa.Plain Go.Proofs.Ytkkealcfadbcbaa.Opens

theorem swap_room (s f t : ByteArray) (h : s.size + t.size ≤ 1048576) : sumS (((words (L s)).map B).map (swapB f t)) ≤ 140737488355328 := by
  have h1 := words_sum s
  have h2 := sumS_len ((words (L s)).map B)
  have h3 := sumS_swap f t ((words (L s)).map B)
  have h4 : ((words (L s)).map B).length * t.size ≤ 1048577 * 1048576 := Nat.mul_le_mul (by omega) (by omega)
  omega
theorem NamesEnds (a0 a1 a2 : ByteArray) (hB : bkS a0 + bkS a1 + bkS a2 ≤ 1048576) : ∃ k, smithylaw03_NamesEnds.f k a0 a1 a2 = some true := by
  unfold bkS at hB
  refine Ev.rounds (r := true) ?_
  refine ev_const (stem_eq a0 a1 (by omega)) (ev_const (rstem_eq a0 a1 (by omega)) (ev_pos rfl (ev_pos (by simp) ?_)))
  refine Ev.bind (swap_ev a0 a1 a2 (by omega) (swap_room a0 a1 a2 (by omega)) (by omega)) (Ev.bind (rswap_ev a0 a1 a2 (by omega) (swap_room a0 a1 a2 (by omega)) (by omega)) (ev_pos rfl ?_))
  exact Ev.bind small_ev (ev_some rfl)
end Go.Proofs.Ytkkealcfadbcbaa.Pure
