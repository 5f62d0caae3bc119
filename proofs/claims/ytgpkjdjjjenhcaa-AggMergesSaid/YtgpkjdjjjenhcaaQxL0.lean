/- Contracts of functions of the program: the call of each comes to what the plain Lean function of its name says, wherever that one is 'some'. Written by a program of this session. -/
import Derived.Test.YtgpkjdjjjenhcaaQx0
import Derived.Test.YtgpkjdjjjenhcaaQx1
import Derived.Test.YtgpkjdjjjenhcaaQx2
import Derived.Test.YtgpkjdjjjenhcaaQx3
import Derived.Test.YtgpkjdjjjenhcaaQx4
import Derived.Test.YtgpkjdjjjenhcaaQx5
import Derived.Test.YtgpkjdjjjenhcaaQx6
namespace Go.Proofs.Ytgpkjdjjjenhcaa.Q
open Go.RowKit Go.Proofs.YtgpkjdjjjenhcaaW.PrintWords Go.Proofs.YtgpkjdjjjenhcaaW.PrintLast Go.Proofs.Ytgpkjdjjjenhcaa.Fw Go.Proofs.YtgpkjdjjjenhcaaW.PrintMore
attribute [local go_sem] max2_int min2_int max_two min_two max_three min_three max_four min_four   -- for this text's walks alone
set_option linter.unusedVariables false
set_option linter.unusedSimpArgs false

end Go.Proofs.Ytgpkjdjjjenhcaa.Q
