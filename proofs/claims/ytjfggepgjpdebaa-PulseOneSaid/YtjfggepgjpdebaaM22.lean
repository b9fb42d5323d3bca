import Derived.Outline
import Derived.Test.YtjfggepgjpdebaaM1
import Derived.Test.YtjfggepgjpdebaaM11
set_option linter.unusedVariables false
set_option linter.unusedSimpArgs false
/- Contract: OrderEnded returns true. -/
namespace Go.Proofs.Ytjfggepgjpdebaa
open Go.RowKit Go.Q
end Go.Proofs.Ytjfggepgjpdebaa
