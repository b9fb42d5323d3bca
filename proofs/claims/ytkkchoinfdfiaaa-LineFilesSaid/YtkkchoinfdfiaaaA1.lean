/- Contracts of the small functions that only reckon: in, Word, Address, Sign, signed, pack, unpack, Written. -/
import Derived.Test.YtkkchoinfdfiaaaRows
import Derived.Test.YtkkchoinfdfiaaaSpec4
import Derived.Test.YtkkchoinfdfiaaaLib
set_option linter.unusedVariables false
set_option linter.unusedSimpArgs false
namespace Go.Proofs.Ytkkchoinfdfiaaa
open Go.RowKit Go.Q

end Go.Proofs.Ytkkchoinfdfiaaa
