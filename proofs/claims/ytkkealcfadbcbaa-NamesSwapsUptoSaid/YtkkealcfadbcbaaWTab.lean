-- Words of the kit's print.sh, pruned by this session's own program (wip/tools/prune.py).
import Derived.Test.YtkkealcfadbcbaaWLast
import Derived.Test.YtkkealcfadbcbaaWWords
namespace Go.Proofs.YtkkealcfadbcbaaW.PrintLast
open Go.Proofs.YtkkealcfadbcbaaW.PrintWords (Aside0)
section
variable {md : Region.Mode} {ops : Array Oper} {T : Bool × List (List Nat × List Nat)} {l l' li lj lk : Array Bool} {ds : List Nat} {i j k : Nat}
end
end Go.Proofs.YtkkealcfadbcbaaW.PrintLast
