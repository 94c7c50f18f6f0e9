-- Words of the kit's print.sh, pruned by this session's own program (wip/tools/prune.py).
import Derived.Test.YtkkealcfadbcbaaWWords
import Derived.Laws.StructEq
namespace Go.Proofs.YtkkealcfadbcbaaW.PrintWords
open Go.RowKit
section
variable {P : Program} {d : Nat} {xs ys : Array Value} {f : Field} {fs : List Field} {a b : Value} {r s : Bool} {w : World}
end
end Go.Proofs.YtkkealcfadbcbaaW.PrintWords
