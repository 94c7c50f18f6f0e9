-- Words of the kit's print.sh, pruned by this session's own program (wip/tools/prune.py).
import Derived.Test.YtoclolaljaiogaaDoorWInv
import Derived.Test.YtoclolaljaiogaaDoorWFootNe
namespace Go.Proofs.YtoclolaljaiogaaDoorW.PrintWords
open Go.RowKit
end Go.Proofs.YtoclolaljaiogaaDoorW.PrintWords
namespace Go.Proofs.YtoclolaljaiogaaDoorW.PrintLast
section
variable {ops : Array Oper} {a : Act} {o og : Oper} {g : Nat} {t : Tmp} {u : Bool}
end
end Go.Proofs.YtoclolaljaiogaaDoorW.PrintLast
