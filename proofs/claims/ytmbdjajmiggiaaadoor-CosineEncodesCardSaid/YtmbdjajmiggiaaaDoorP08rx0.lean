-- Written by gprint.py, a program of this session, over the seat's translation. Lean checks it.
import Derived.Test.YtmbdjajmiggiaaaDoorProg
import Derived.Below
import Derived.Deep.Draws
import Derived.Deep.AppendLies
import Derived.Maps.AppendAt
import Derived.OwnWalk
import Derived.Laws.BytesArg
import Derived.Laws.MakeOwn
import Derived.Laws.OwnMore
import Derived.Deep.OwnRows
import Derived.Tactics
import Derived.Lib.ConvBytes
import Derived.Laws.Slices
import Derived.WalkKit
import Derived.KernelRfl
import Derived.RowKit3
import Derived.Deep.LoopGhost
import Derived.Deep.QuietTactic
import Derived.BigQuiet
import Derived.WideLaws
import Derived.Deep.DeepCutAuto
import Derived.Deep.CutBlock
import Derived.Deep.RegionHeld3
import Derived.Laws.Rows
import Derived.Lib.AppendStr
import Derived.ArgAppend
import Derived.Laws.IdiomCopy
import Derived.OrdersHeld
import Derived.Laws.BitsLemmas
import Derived.RowKit
import Derived.Test.YtmbdjajmiggiaaaDoorWMore
import Derived.Test.YtmbdjajmiggiaaaDoorWWords
import Derived.Test.YtmbdjajmiggiaaaDoorWLast
import Derived.Test.YtmbdjajmiggiaaaDoorWTab
import Derived.Test.YtmbdjajmiggiaaaDoorWFour
import Derived.Test.YtmbdjajmiggiaaaDoorWQPut
import Derived.Test.YtmbdjajmiggiaaaDoorWApart
import Derived.Test.YtmbdjajmiggiaaaDoorWArr
import Derived.Test.YtmbdjajmiggiaaaDoorWZeros
import Derived.Test.YtmbdjajmiggiaaaDoorWFoot
import Derived.Test.YtmbdjajmiggiaaaDoorWKept
import Derived.Test.YtmbdjajmiggiaaaDoorWShare
import Derived.Test.YtmbdjajmiggiaaaDoorWN
import Derived.Test.YtmbdjajmiggiaaaDoorWFootNe
import Derived.Test.YtmbdjajmiggiaaaDoorWAt
import Derived.Test.YtmbdjajmiggiaaaDoorWEqStruct
import Derived.Test.YtmbdjajmiggiaaaDoorWRepsOne
import Derived.Test.YtmbdjajmiggiaaaDoorWInv
import Derived.Test.YtmbdjajmiggiaaaDoorWInvWords
import Derived.Test.YtmbdjajmiggiaaaDoorWGuard
import Derived.Test.YtmbdjajmiggiaaaDoorWNEv
import Derived.Test.YtmbdjajmiggiaaaDoorWMore
namespace Go.Proofs.YtmbdjajmiggiaaaDoor.P08r
open Go.Proofs Go.RowKit Go.Proofs.YtmbdjajmiggiaaaDoorW.PrintWords Go.Proofs.YtmbdjajmiggiaaaDoorW.PrintLast Go.Proofs.YtmbdjajmiggiaaaDoorW.PrintMore
attribute [local go_sem] max2_int min2_int max_two min_two max_three min_three max_four min_four   -- for this text's walks alone
set_option linter.unusedVariables false
set_option linter.unusedSimpArgs false



def errW : Option Int → Value
  | none => .nilIface
  | some c => .iface 0 (.int .i64 c)
theorem errW_none : errW none = .nilIface := rfl
theorem errW_some (c : Int) : errW (some c) = .iface 0 (.int .i64 c) := rfl

theorem info5 : (Tryd.prog.info? 5).map (fun i => (i.zero, i.size, i.bytes)) = some (some (.int .u8 0), 1, 1) := by kernel_rfl
-- the values' own types

end Go.Proofs.YtmbdjajmiggiaaaDoor.P08r
