-- Words of the kit's print.sh, pruned by this session's own program (wip/tools/prune.py).
import Derived.Test.YtkkealcfadbcbaaWTab
namespace Go.Proofs.YtkkealcfadbcbaaW.PrintLast
section
variable {P : Program} {ops : Array Oper} {Q : Exit → Act → World → Prop} {md : Region.Mode} {T : Bool × List (List Nat × List Nat)} {B : List Nat} {O : List Nat} {b : Nat → Bool} {i j n : Nat}
end
end Go.Proofs.YtkkealcfadbcbaaW.PrintLast
