-- Written by gprint.py, a program of this session, over the seat's translation. Lean checks it.
import Derived.Test.YtmbdjajmiggiaaaDoorP08rx0
import Derived.Test.YtmbdjajmiggiaaaDoorP08rx1
namespace Go.Proofs.YtmbdjajmiggiaaaDoor.P08r
open Go.Proofs Go.RowKit Go.Proofs.YtmbdjajmiggiaaaDoorW.PrintWords Go.Proofs.YtmbdjajmiggiaaaDoorW.PrintLast Go.Proofs.YtmbdjajmiggiaaaDoorW.PrintMore
attribute [local go_sem] max2_int min2_int max_two min_two max_three min_three max_four min_four   -- for this text's walks alone
set_option linter.unusedVariables false
set_option linter.unusedSimpArgs false

end Go.Proofs.YtmbdjajmiggiaaaDoor.P08r
