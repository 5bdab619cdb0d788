/- Functions of the program as Lean functions, each with a proof that a call of it comes to just that. Written by this session's program wip/tools/myprint.py. -/
import Derived.Test.YtenfegfoaobehaaDoorRd0
import Derived.Test.YtenfegfoaobehaaDoorRd1
import Derived.Test.YtenfegfoaobehaaDoorRd2
import Derived.Test.YtenfegfoaobehaaDoorRd3
import Derived.Test.YtenfegfoaobehaaDoorRd4
import Derived.Test.YtenfegfoaobehaaDoorRd5
namespace Go.Proofs.YtenfegfoaobehaaDoor.Rd
open Go.RowKit Go.Proofs.YtenfegfoaobehaaDoorW.PrintWords Go.Proofs.YtenfegfoaobehaaDoorW.PrintLast Go.Proofs.YtenfegfoaobehaaDoorW.PrintMore
attribute [local go_sem] max2_int min2_int max_two min_two max_three min_three max_four min_four   -- for this text's walks alone
set_option linter.unusedVariables false
set_option linter.unusedSimpArgs false

end Go.Proofs.YtenfegfoaobehaaDoor.Rd
