-- Written by gprint.py, a program of this session, over the seat's translation. Lean checks it.
import Derived.Test.YtbgndbehceajpaaP05x0
import Derived.Test.YtbgndbehceajpaaP05x1
import Derived.Test.YtbgndbehceajpaaP05x2
namespace Go.Proofs.Ytbgndbehceajpaa.P05
open Go.Proofs.Ytbgndbehceajpaa.G05 Go.Proofs.Ytbgndbehceajpaa.G05x Go.RowKit Go.Proofs.YtbgndbehceajpaaW.PrintWords Go.Proofs.YtbgndbehceajpaaW.PrintLast Go.Proofs.YtbgndbehceajpaaW.PrintMore
attribute [local go_sem] max2_int min2_int max_two min_two max_three min_three max_four min_four   -- for this text's walks alone
set_option linter.unusedVariables false
set_option linter.unusedSimpArgs false

end Go.Proofs.Ytbgndbehceajpaa.P05
