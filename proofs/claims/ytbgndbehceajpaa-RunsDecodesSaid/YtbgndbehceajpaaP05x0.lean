-- Written by gprint.py, a program of this session, over the seat's translation. Lean checks it.
import Derived.Test.YtbgndbehceajpaaProg
import Derived.Below
import Derived.Deep.Draws
import Derived.Deep.AppendLies
import Derived.Maps.AppendAt
import Derived.OwnWalk
import Derived.Laws.BytesArg
import Derived.Laws.MakeOwn
import Derived.Laws.OwnMore
import Derived.Deep.OwnRows
import Derived.Tactics
import Derived.Lib.ConvBytes
import Derived.Laws.Slices
import Derived.WalkKit
import Derived.KernelRfl
import Derived.RowKit3
import Derived.Deep.LoopGhost
import Derived.Deep.QuietTactic
import Derived.BigQuiet
import Derived.WideLaws
import Derived.Deep.DeepCutAuto
import Derived.Deep.CutBlock
import Derived.Deep.RegionHeld3
import Derived.Laws.Rows
import Derived.Lib.AppendStr
import Derived.ArgAppend
import Derived.Laws.IdiomCopy
import Derived.OrdersHeld
import Derived.Laws.BitsLemmas
import Derived.RowKit
import Derived.Test.YtbgndbehceajpaaG05
import Derived.Test.YtbgndbehceajpaaG05x
import Derived.Test.YtbgndbehceajpaaWWords
import Derived.Test.YtbgndbehceajpaaWLast
import Derived.Test.YtbgndbehceajpaaWTab
import Derived.Test.YtbgndbehceajpaaWFour
import Derived.Test.YtbgndbehceajpaaWQPut
import Derived.Test.YtbgndbehceajpaaWApart
import Derived.Test.YtbgndbehceajpaaWArr
import Derived.Test.YtbgndbehceajpaaWZeros
import Derived.Test.YtbgndbehceajpaaWFoot
import Derived.Test.YtbgndbehceajpaaWKept
import Derived.Test.YtbgndbehceajpaaWShare
import Derived.Test.YtbgndbehceajpaaWN
import Derived.Test.YtbgndbehceajpaaWFootNe
import Derived.Test.YtbgndbehceajpaaWAt
import Derived.Test.YtbgndbehceajpaaWEqStruct
import Derived.Test.YtbgndbehceajpaaWRepsOne
import Derived.Test.YtbgndbehceajpaaWInv
import Derived.Test.YtbgndbehceajpaaWInvWords
import Derived.Test.YtbgndbehceajpaaWGuard
import Derived.Test.YtbgndbehceajpaaWNEv
import Derived.Test.YtbgndbehceajpaaWMore
namespace Go.Proofs.Ytbgndbehceajpaa.P05
open Go.Proofs.Ytbgndbehceajpaa.G05 Go.Proofs.Ytbgndbehceajpaa.G05x Go.RowKit Go.Proofs.YtbgndbehceajpaaW.PrintWords Go.Proofs.YtbgndbehceajpaaW.PrintLast Go.Proofs.YtbgndbehceajpaaW.PrintMore
attribute [local go_sem] max2_int min2_int max_two min_two max_three min_three max_four min_four   -- for this text's walks alone
set_option linter.unusedVariables false
set_option linter.unusedSimpArgs false



def errW : Option Int → Value
  | none => .nilIface
  | some c => .iface 0 (.int .i64 c)
theorem errW_none : errW none = .nilIface := rfl
theorem errW_some (c : Int) : errW (some c) = .iface 0 (.int .i64 c) := rfl

theorem info5 : (Try.prog.info? 5).map (fun i => (i.zero, i.size, i.bytes)) = some (some (.int .u8 0), 1, 1) := by kernel_rfl
-- the values' own types

end Go.Proofs.Ytbgndbehceajpaa.P05
