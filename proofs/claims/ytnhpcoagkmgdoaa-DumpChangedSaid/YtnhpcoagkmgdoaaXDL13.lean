import Derived.Test.YtnhpcoagkmgdoaaXAW4
import Derived.Test.YtnhpcoagkmgdoaaXDL4
set_option linter.unusedVariables false
set_option linter.unusedSimpArgs false
/- Layer 10's Awake returns true: the laws' premise. -/
namespace Go.Proofs.Ytnhpcoagkmgdoaa
open Go.RowKit Go.Q
theorem awakeT : AwakeT := awake10_any
end Go.Proofs.Ytnhpcoagkmgdoaa
