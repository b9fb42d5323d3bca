import Derived.Test.YtnhpcoagkmgdoaaGreatRows
import Derived.WalkKit
import Derived.ProofKit
set_option linter.unusedVariables false
set_option linter.unusedSimpArgs false
/- Facts on the whole program that every row of the layer asks: each by the kernel, once. -/
namespace Go.Proofs.YtnhpcoagkmgdoaaGreat
open Go
theorem factEnter : Tryz.pinned.checked.prog.mayEnter = true := by kernel_rfl
theorem factLifted : Tryz.pinned.checked.prog.liftsFinal = false := by kernel_rfl
theorem factMake : (Tryz.pinned.checked.prog.make == some Make.cut) = true := by kernel_rfl
end Go.Proofs.YtnhpcoagkmgdoaaGreat
