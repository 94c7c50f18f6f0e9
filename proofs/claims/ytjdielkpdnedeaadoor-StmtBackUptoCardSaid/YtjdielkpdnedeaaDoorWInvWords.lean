-- Words of the kit's print.sh, pruned by this session's own program (wip/tools/prune.py).
import Derived.Test.YtjdielkpdnedeaaDoorWInv
import Derived.Test.YtjdielkpdnedeaaDoorWFootNe
namespace Go.Proofs.YtjdielkpdnedeaaDoorW.PrintWords
open Go.RowKit
end Go.Proofs.YtjdielkpdnedeaaDoorW.PrintWords
namespace Go.Proofs.YtjdielkpdnedeaaDoorW.PrintLast
section
variable {ops : Array Oper} {a : Act} {o og : Oper} {g : Nat} {t : Tmp} {u : Bool}
end
end Go.Proofs.YtjdielkpdnedeaaDoorW.PrintLast
