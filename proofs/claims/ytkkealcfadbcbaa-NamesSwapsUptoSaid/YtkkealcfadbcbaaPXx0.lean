-- Printed by this session's own program (wip/tools/xprint.py) out of the translation. Lean checks it.
import Derived.Test.YtkkealcfadbcbaaProg
import Derived.WalkMore
import Derived.Below
import Derived.Deep.Draws
import Derived.Deep.AppendLies
import Derived.Maps.AppendAt
import Derived.OwnWalk
import Derived.Laws.BytesArg
import Derived.Laws.MakeOwn
import Derived.Laws.OwnMore
import Derived.Deep.OwnRows
import Derived.Tactics
import Derived.Lib.ConvBytes
import Derived.Laws.Slices
import Derived.WalkKit
import Derived.KernelRfl
import Derived.RowKit3
import Derived.Deep.LoopGhost
import Derived.Deep.QuietTactic
import Derived.BigQuiet
import Derived.WideLaws
import Derived.Deep.DeepCutAuto
import Derived.Deep.CutBlock
import Derived.Deep.RegionHeld3
import Derived.Laws.Rows
import Derived.Lib.AppendStr
import Derived.ArgAppend
import Derived.Laws.IdiomCopy
import Derived.OrdersHeld
import Derived.Laws.BitsLemmas
import Derived.RowKit
import Derived.Test.YtkkealcfadbcbaaShelf
import Derived.Test.YtkkealcfadbcbaaWWords
import Derived.Test.YtkkealcfadbcbaaWLast
import Derived.Test.YtkkealcfadbcbaaWTab
import Derived.Test.YtkkealcfadbcbaaWFour
import Derived.Test.YtkkealcfadbcbaaWQPut
import Derived.Test.YtkkealcfadbcbaaWApart
import Derived.Test.YtkkealcfadbcbaaWArr
import Derived.Test.YtkkealcfadbcbaaWZeros
import Derived.Test.YtkkealcfadbcbaaWFoot
import Derived.Test.YtkkealcfadbcbaaWKept
import Derived.Test.YtkkealcfadbcbaaWShare
import Derived.Test.YtkkealcfadbcbaaWN
import Derived.Test.YtkkealcfadbcbaaWFootNe
import Derived.Test.YtkkealcfadbcbaaWAt
import Derived.Test.YtkkealcfadbcbaaWEqStruct
import Derived.Test.YtkkealcfadbcbaaWRepsOne
import Derived.Test.YtkkealcfadbcbaaWInv
import Derived.Test.YtkkealcfadbcbaaWInvWords
import Derived.Test.YtkkealcfadbcbaaWGuard
import Derived.Test.YtkkealcfadbcbaaWNEv
import Derived.Test.YtkkealcfadbcbaaWMore
attribute [-simp] ByteArray.size_extract
namespace Go.Proofs.Ytkkealcfadbcbaa.PX
open Go.RowKit Go.Proofs.YtkkealcfadbcbaaW.PrintWords Go.Proofs.YtkkealcfadbcbaaW.PrintLast Go.Proofs.YtkkealcfadbcbaaW.PrintMore
attribute [local go_sem] max2_int min2_int max_two min_two max_three min_three max_four min_four   -- for this text's walks alone
set_option linter.unusedVariables false
set_option linter.unusedSimpArgs false



def errW : Option Int → Value
  | none => .nilIface
  | some c => .iface 0 (.int .i64 c)
theorem errW_none : errW none = .nilIface := rfl
theorem errW_some (c : Int) : errW (some c) = .iface 0 (.int .i64 c) := rfl

theorem info9 : (Try.prog.info? 9).map (fun i => (i.zero, i.size, i.bytes)) = some (some (.string ⟨#[]⟩), 1, 16) := by kernel_rfl
-- the values' own types

end Go.Proofs.Ytkkealcfadbcbaa.PX
