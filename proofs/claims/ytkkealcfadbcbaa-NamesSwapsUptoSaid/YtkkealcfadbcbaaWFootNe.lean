-- Words of the kit's print.sh, pruned by this session's own program (wip/tools/prune.py).
import Derived.Test.YtkkealcfadbcbaaWN
namespace Go.Proofs.YtkkealcfadbcbaaW.PrintWords
open Go.RowKit
namespace Kd
section
variable {α : Type} {d : Kd α} {W : World} {g n : Nat} {S ok : Nat → Prop} {A : Option Addr} {ad : Addr} {xs : List α}
end
end Kd
end Go.Proofs.YtkkealcfadbcbaaW.PrintWords
