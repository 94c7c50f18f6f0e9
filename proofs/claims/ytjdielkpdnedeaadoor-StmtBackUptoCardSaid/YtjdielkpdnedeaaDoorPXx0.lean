-- Printed by this session's own program (wip/tools/xprint.py) out of the translation. Lean checks it.
import Derived.Test.YtjdielkpdnedeaaDoorProg
import Derived.WalkMore
import Derived.Below
import Derived.Deep.Draws
import Derived.Deep.AppendLies
import Derived.Maps.AppendAt
import Derived.OwnWalk
import Derived.Laws.BytesArg
import Derived.Laws.MakeOwn
import Derived.Laws.OwnMore
import Derived.Deep.OwnRows
import Derived.Tactics
import Derived.Lib.ConvBytes
import Derived.Laws.Slices
import Derived.WalkKit
import Derived.KernelRfl
import Derived.RowKit3
import Derived.Deep.LoopGhost
import Derived.Deep.QuietTactic
import Derived.BigQuiet
import Derived.WideLaws
import Derived.Deep.DeepCutAuto
import Derived.Deep.CutBlock
import Derived.Deep.RegionHeld3
import Derived.Laws.Rows
import Derived.Lib.AppendStr
import Derived.ArgAppend
import Derived.Laws.IdiomCopy
import Derived.OrdersHeld
import Derived.Laws.BitsLemmas
import Derived.RowKit
import Derived.Test.YtjdielkpdnedeaaDoorShelf
import Derived.Test.YtjdielkpdnedeaaDoorWWords
import Derived.Test.YtjdielkpdnedeaaDoorWLast
import Derived.Test.YtjdielkpdnedeaaDoorWTab
import Derived.Test.YtjdielkpdnedeaaDoorWFour
import Derived.Test.YtjdielkpdnedeaaDoorWQPut
import Derived.Test.YtjdielkpdnedeaaDoorWApart
import Derived.Test.YtjdielkpdnedeaaDoorWArr
import Derived.Test.YtjdielkpdnedeaaDoorWZeros
import Derived.Test.YtjdielkpdnedeaaDoorWFoot
import Derived.Test.YtjdielkpdnedeaaDoorWKept
import Derived.Test.YtjdielkpdnedeaaDoorWShare
import Derived.Test.YtjdielkpdnedeaaDoorWN
import Derived.Test.YtjdielkpdnedeaaDoorWFootNe
import Derived.Test.YtjdielkpdnedeaaDoorWAt
import Derived.Test.YtjdielkpdnedeaaDoorWEqStruct
import Derived.Test.YtjdielkpdnedeaaDoorWRepsOne
import Derived.Test.YtjdielkpdnedeaaDoorWInv
import Derived.Test.YtjdielkpdnedeaaDoorWInvWords
import Derived.Test.YtjdielkpdnedeaaDoorWGuard
import Derived.Test.YtjdielkpdnedeaaDoorWNEv
import Derived.Test.YtjdielkpdnedeaaDoorWMore
attribute [-simp] ByteArray.size_extract
namespace Go.Proofs.YtjdielkpdnedeaaDoor.PX
open Go.RowKit Go.Proofs.YtjdielkpdnedeaaDoorW.PrintWords Go.Proofs.YtjdielkpdnedeaaDoorW.PrintLast Go.Proofs.YtjdielkpdnedeaaDoorW.PrintMore
attribute [local go_sem] max2_int min2_int max_two min_two max_three min_three max_four min_four   -- for this text's walks alone
set_option linter.unusedVariables false
set_option linter.unusedSimpArgs false



def errW : Option Int → Value
  | none => .nilIface
  | some c => .iface 0 (.int .i64 c)
theorem errW_none : errW none = .nilIface := rfl
theorem errW_some (c : Int) : errW (some c) = .iface 0 (.int .i64 c) := rfl

theorem info9 : (Tryd.prog.info? 9).map (fun i => (i.zero, i.size, i.bytes)) = some (some (.string ⟨#[]⟩), 1, 16) := by kernel_rfl
-- the values' own types

end Go.Proofs.YtjdielkpdnedeaaDoor.PX
