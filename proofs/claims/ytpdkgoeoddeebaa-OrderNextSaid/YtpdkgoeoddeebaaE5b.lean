/- Contract: OrderNext returns true, whatever comes in. -/
import Derived.Test.YtpdkgoeoddeebaaE5
set_option linter.unusedVariables false
set_option linter.unusedSimpArgs false
namespace Go.Proofs.Ytpdkgoeoddeebaa
open Go.RowKit Go.Q
theorem next_any (a b c d t : Int) (x y z : Int) (w : World) (hx : 0 ≤ x ∧ x ≤ 255) (hy : 0 ≤ y ∧ y ≤ 255) (hz : 0 ≤ z ∧ z ≤ 255) :
    Calls Try.prog 16 #[.agg #[.int .i64 a, .int .i64 b, .int .i64 c, .int .i64 d], .int .i64 t, .agg #[.int .u8 x, .int .u8 y, .int .u8 z]] w fun e w' => e = .returned (.bool true) ∧ Ext w w' := by
  by_cases h : ordB ⟨a, b, c, d⟩ = true ∧ inB t 0 1000000000 = true ∧ a ≠ 0
  · exact next_yes a b c d t x y z w h.1 h.2.1 h.2.2 hx hy hz
  · exact next_no a b c d t x y z w h
end Go.Proofs.Ytpdkgoeoddeebaa
