import Derived.Test.YtcijneecjkpebaaRows
import Derived.WalkKit
import Derived.ProofKit
set_option linter.unusedVariables false
set_option linter.unusedSimpArgs false
/- Facts on the whole program that every row of the layer asks: each by the kernel, once. -/
namespace Go.Proofs.Ytcijneecjkpebaa
open Go
theorem factEnter : Try.pinned.checked.prog.mayEnter = true := by kernel_rfl
theorem factLifted : Try.pinned.checked.prog.liftsFinal = false := by kernel_rfl
theorem factMake : (Try.pinned.checked.prog.make == some Make.cut) = true := by kernel_rfl
end Go.Proofs.Ytcijneecjkpebaa
