import Derived.Test.YtjfggepgjpdebaaM11
set_option linter.unusedVariables false
set_option linter.unusedSimpArgs false
/- The range of an uint8 that came in. -/
namespace Go.Proofs.Ytjfggepgjpdebaa
theorem u8_in {a : Int} (h : (Lit.int .u8 a).wf = true) : 0 ≤ a ∧ a ≤ 255 := by
  simp [Lit.wf, IntKind.min, IntKind.max, IntKind.signed, IntKind.bits] at h
  omega
end Go.Proofs.Ytjfggepgjpdebaa
