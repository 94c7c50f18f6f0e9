/- expand.fit: a text that is too long is refused. -/
import Derived.Test.YtadfbbjplgbakaaDoorProg
import Derived.Test.YtadfbbjplgbakaaDoorWWords
import Derived.WalkKit
import Derived.WalkMore
import Derived.WalkSmall
import Derived.Handy
import Derived.Defers
import Derived.Recover
namespace Go.Proofs.YtadfbbjplgbakaaDoor.Exp
open Go Go.RowKit Go.Proofs Go.Proofs.YtadfbbjplgbakaaDoorW.PrintWords
set_option linter.unusedVariables false
set_option linter.unusedSimpArgs false

/-- How an expansion gives up. -/
abbrev bad (c : Int) : Ending := .panicked [{ v := .iface 47 (.agg #[.int .i64 c]), recovered := false }]
theorem fit_ok (n : Int) (hn : n ≤ 8192) (w : World) : Calls Tryd.prog 32 #[.int .i64 n] w fun e w' => (∃ v, e = .returned v) ∧ w' = w := by
  have d : ¬ (8192 : Int) < n := by omega
  go_enter Tryd.func32, Tryd.ntmps32
  go_wp2
  first | go_ret | go_end0
  exact ⟨⟨_, rfl⟩, rfl⟩
theorem fit_bad (n : Int) (hn : 8192 < n) (w : World) : Calls Tryd.prog 32 #[.int .i64 n] w fun e w' => e = bad 41 ∧ w' = w := by
  go_enter Tryd.func32, Tryd.ntmps32
  go_wp2
  exact ⟨rfl, rfl, rfl⟩
theorem below_t {w W w2 : World} (h : Below w.heap.size w W) (k : Below W.heap.size W w2) : Below w.heap.size w w2 :=
  h.trans ⟨k.os, k.tape, k.output, k.size, fun i hi => k.block i (Nat.lt_of_lt_of_le hi h.size)⟩
end Go.Proofs.YtadfbbjplgbakaaDoor.Exp
