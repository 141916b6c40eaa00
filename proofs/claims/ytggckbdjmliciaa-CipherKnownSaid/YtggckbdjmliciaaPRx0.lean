-- Written by gprint.py, a program of this session, over the seat's translation. Lean checks it.
import Derived.Test.YtggckbdjmliciaaProg
import Derived.Below
import Derived.Deep.Draws
import Derived.Deep.AppendLies
import Derived.Maps.AppendAt
import Derived.OwnWalk
import Derived.Laws.BytesArg
import Derived.Laws.MakeOwn
import Derived.Laws.OwnMore
import Derived.Deep.OwnRows
import Derived.Tactics
import Derived.Lib.ConvBytes
import Derived.Laws.Slices
import Derived.WalkKit
import Derived.KernelRfl
import Derived.RowKit3
import Derived.Deep.LoopGhost
import Derived.Deep.QuietTactic
import Derived.BigQuiet
import Derived.WideLaws
import Derived.Deep.DeepCutAuto
import Derived.Deep.CutBlock
import Derived.Deep.RegionHeld3
import Derived.Laws.Rows
import Derived.Lib.AppendStr
import Derived.ArgAppend
import Derived.Laws.IdiomCopy
import Derived.OrdersHeld
import Derived.Laws.BitsLemmas
import Derived.RowKit
import Derived.Test.YtggckbdjmliciaaG32
import Derived.Test.YtggckbdjmliciaaWWords
import Derived.Test.YtggckbdjmliciaaWLast
import Derived.Test.YtggckbdjmliciaaWTab
import Derived.Test.YtggckbdjmliciaaWFour
import Derived.Test.YtggckbdjmliciaaWQPut
import Derived.Test.YtggckbdjmliciaaWApart
import Derived.Test.YtggckbdjmliciaaWArr
import Derived.Test.YtggckbdjmliciaaWZeros
import Derived.Test.YtggckbdjmliciaaWFoot
import Derived.Test.YtggckbdjmliciaaWKept
import Derived.Test.YtggckbdjmliciaaWShare
import Derived.Test.YtggckbdjmliciaaWN
import Derived.Test.YtggckbdjmliciaaWFootNe
import Derived.Test.YtggckbdjmliciaaWAt
import Derived.Test.YtggckbdjmliciaaWEqStruct
import Derived.Test.YtggckbdjmliciaaWRepsOne
import Derived.Test.YtggckbdjmliciaaWInv
import Derived.Test.YtggckbdjmliciaaWInvWords
import Derived.Test.YtggckbdjmliciaaWGuard
import Derived.Test.YtggckbdjmliciaaWNEv
import Derived.Test.YtggckbdjmliciaaWMore
namespace Go.Proofs.Ytggckbdjmliciaa.PR
open Go.Proofs.Ytggckbdjmliciaa.G32 Go.RowKit Go.Proofs.YtggckbdjmliciaaW.PrintWords Go.Proofs.YtggckbdjmliciaaW.PrintLast Go.Proofs.YtggckbdjmliciaaW.PrintMore
attribute [local go_sem] max2_int min2_int max_two min_two max_three min_three max_four min_four   -- for this text's walks alone
set_option linter.unusedVariables false
set_option linter.unusedSimpArgs false



def errW : Option Int → Value
  | none => .nilIface
  | some c => .iface 0 (.int .i64 c)
theorem errW_none : errW none = .nilIface := rfl
theorem errW_some (c : Int) : errW (some c) = .iface 0 (.int .i64 c) := rfl

theorem info5 : (Try.prog.info? 5).map (fun i => (i.zero, i.size, i.bytes)) = some (some (.int .u8 0), 1, 1) := by kernel_rfl
-- the values' own types

end Go.Proofs.Ytggckbdjmliciaa.PR
