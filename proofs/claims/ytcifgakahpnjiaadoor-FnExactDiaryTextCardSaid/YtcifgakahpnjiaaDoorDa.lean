/- Functions of the program as Lean functions, each with a proof that a call of it comes to just that. Written by this session's program wip/tools/myprint.py. -/
import Derived.Test.YtcifgakahpnjiaaDoorDa0
import Derived.Test.YtcifgakahpnjiaaDoorDa1
import Derived.Test.YtcifgakahpnjiaaDoorDa2
import Derived.Test.YtcifgakahpnjiaaDoorDa3
import Derived.Test.YtcifgakahpnjiaaDoorDa4
import Derived.Test.YtcifgakahpnjiaaDoorDa5
import Derived.Test.YtcifgakahpnjiaaDoorDa6
import Derived.Test.YtcifgakahpnjiaaDoorDa7
import Derived.Test.YtcifgakahpnjiaaDoorDa8
import Derived.Test.YtcifgakahpnjiaaDoorDa9
import Derived.Test.YtcifgakahpnjiaaDoorDa10
import Derived.Test.YtcifgakahpnjiaaDoorDa11
import Derived.Test.YtcifgakahpnjiaaDoorDa12
import Derived.Test.YtcifgakahpnjiaaDoorDa13
import Derived.Test.YtcifgakahpnjiaaDoorDa14
namespace Go.Proofs.YtcifgakahpnjiaaDoor.Da
open Go.RowKit Go.Proofs.YtcifgakahpnjiaaDoorW.PrintWords Go.Proofs.YtcifgakahpnjiaaDoorW.PrintLast Go.Proofs.YtcifgakahpnjiaaDoorW.PrintMore
attribute [local go_sem] max2_int min2_int max_two min_two max_three min_three max_four min_four   -- for this text's walks alone
set_option linter.unusedVariables false
set_option linter.unusedSimpArgs false

end Go.Proofs.YtcifgakahpnjiaaDoor.Da
