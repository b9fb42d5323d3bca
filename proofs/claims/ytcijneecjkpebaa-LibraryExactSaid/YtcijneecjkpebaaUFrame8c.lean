import Derived.Test.YtcijneecjkpebaaUFrame8b
set_option linter.unusedVariables false
set_option linter.unusedSimpArgs false
/- What an argument of the rows of layer 8 holds: a word of 32 bits. -/
namespace Go.Proofs.Ytcijneecjkpebaa
open Go.ChangeShapes Go.WideShapes Go.ChangeAt Go.RowKit Go.Joins Go.Deep Go.Q
theorem u32_bd {a : Int} (h : (Lit.int .u32 a).wf = true) : 0 ≤ a ∧ a ≤ 4294967295 := by
  simp [Lit.wf, IntKind.min, IntKind.max, IntKind.signed, IntKind.bits] at h
  omega
end Go.Proofs.Ytcijneecjkpebaa
