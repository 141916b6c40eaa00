-- Written by gprint.py, a program of this session, over the seat's translation. Lean checks it.
import Derived.Test.YtkfhpajnlaomeaaP02x0
import Derived.Test.YtkfhpajnlaomeaaP02x1
import Derived.Test.YtkfhpajnlaomeaaP02x2
import Derived.Test.YtkfhpajnlaomeaaP02x3
import Derived.Test.YtkfhpajnlaomeaaP02x4
namespace Go.Proofs.Ytkfhpajnlaomeaa.P02
open Go.Proofs Go.RowKit Go.Proofs.YtkfhpajnlaomeaaW.PrintWords Go.Proofs.YtkfhpajnlaomeaaW.PrintLast Go.Proofs.YtkfhpajnlaomeaaW.PrintMore
attribute [local go_sem] max2_int min2_int max_two min_two max_three min_three max_four min_four   -- for this text's walks alone
set_option linter.unusedVariables false
set_option linter.unusedSimpArgs false

end Go.Proofs.Ytkfhpajnlaomeaa.P02
