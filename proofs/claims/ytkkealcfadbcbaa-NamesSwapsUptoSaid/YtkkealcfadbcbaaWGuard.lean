-- Words of the kit's print.sh, pruned by this session's own program (wip/tools/prune.py).
import Derived.Test.YtkkealcfadbcbaaWWords
namespace Go.Proofs.YtkkealcfadbcbaaW.PrintWords
open Go.RowKit
section
variable {P : Program} {ops : Array Oper} {rest : List Oper} {o : Oper} {a : Act} {Q : Exit → Act → World → Prop} {W : World}
end
end Go.Proofs.YtkkealcfadbcbaaW.PrintWords
