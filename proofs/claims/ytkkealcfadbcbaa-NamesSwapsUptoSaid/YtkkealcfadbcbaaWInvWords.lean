-- Words of the kit's print.sh, pruned by this session's own program (wip/tools/prune.py).
import Derived.Test.YtkkealcfadbcbaaWInv
import Derived.Test.YtkkealcfadbcbaaWFootNe
namespace Go.Proofs.YtkkealcfadbcbaaW.PrintWords
open Go.RowKit
end Go.Proofs.YtkkealcfadbcbaaW.PrintWords
namespace Go.Proofs.YtkkealcfadbcbaaW.PrintLast
section
variable {ops : Array Oper} {a : Act} {o og : Oper} {g : Nat} {t : Tmp} {u : Bool}
end
end Go.Proofs.YtkkealcfadbcbaaW.PrintLast
