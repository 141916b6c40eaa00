-- Written by gprint.py, a program of this session, over the seat's translation. Lean checks it.
import Derived.Test.YtfkiacbjiledcaaP06x0
import Derived.Test.YtfkiacbjiledcaaP06x1
import Derived.Test.YtfkiacbjiledcaaP06x2
import Derived.Test.YtfkiacbjiledcaaP06x3
namespace Go.Proofs.Ytfkiacbjiledcaa.P06
open Go.Proofs Go.RowKit Go.Proofs.YtfkiacbjiledcaaW.PrintWords Go.Proofs.YtfkiacbjiledcaaW.PrintLast Go.Proofs.YtfkiacbjiledcaaW.PrintMore
attribute [local go_sem] max2_int min2_int max_two min_two max_three min_three max_four min_four   -- for this text's walks alone
set_option linter.unusedVariables false
set_option linter.unusedSimpArgs false

end Go.Proofs.Ytfkiacbjiledcaa.P06
