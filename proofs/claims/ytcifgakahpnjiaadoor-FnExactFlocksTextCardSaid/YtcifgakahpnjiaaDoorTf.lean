/- Functions of the program as Lean functions, each with a proof that a call of it comes to just that. Written by this session's program wip/tools/myprint.py. -/
import Derived.Test.YtcifgakahpnjiaaDoorTf0
import Derived.Test.YtcifgakahpnjiaaDoorTf1
import Derived.Test.YtcifgakahpnjiaaDoorTf2
import Derived.Test.YtcifgakahpnjiaaDoorTf3
namespace Go.Proofs.YtcifgakahpnjiaaDoor.Tf
open Go.RowKit Go.Proofs.YtcifgakahpnjiaaDoorW.PrintWords Go.Proofs.YtcifgakahpnjiaaDoorW.PrintLast Go.Proofs.YtcifgakahpnjiaaDoorW.PrintMore
attribute [local go_sem] max2_int min2_int max_two min_two max_three min_three max_four min_four   -- for this text's walks alone
set_option linter.unusedVariables false
set_option linter.unusedSimpArgs false

end Go.Proofs.YtcifgakahpnjiaaDoor.Tf
