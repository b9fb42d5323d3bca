/- Layer 1: maps from the states of an oven. -/
import Derived.Test.YtkkchoinfdfiaaaH13
import Derived.DeepKeys4
import Derived.ChangeAt2
set_option linter.unusedVariables false
set_option linter.unusedSimpArgs false
namespace Go.Proofs.Ytkkchoinfdfiaaa
open Go.RowKit Go.Q Go.Shelf Go.Maps

/-- a state of an oven: a temperature, and whether it heated -/
structure OvS where
  t : I64
  h : Bool
deriving DecidableEq
def encS (x : OvS) : Value := .agg #[.int .i64 x.t.1, .bool x.h]
theorem Try.laidOut : laidOutB Try.prog = true := by kernel_rfl
theorem Try.rowS : (125 : TypeId) < Try.prog.types.size := of_decide_eq_true (by kernel_rfl)
theorem Try.wideS : (match Try.prog.underlying 125 with | some (.array _ _) | some (.struct _) => true | _ => false) = true := by rw [Try.underlying125]
set_option maxRecDepth 100000 in
theorem Try.lawS : WideMaps.KeyLaw Try.prog 125 := deep_law_laid Try.laidOut (m := 2) (by omega) Try.rowS (by kernel_rfl) Try.wideS
theorem Try.keyTypeS : Try.prog.keyType 125 = true := by kernel_rfl
theorem Try.cellsS : Try.prog.cellsOf 125 = 2 := by kernel_rfl
theorem Try.cellsI : Try.prog.cellsOf 3 = 1 := by kernel_rfl
theorem Try.cellsB : Try.prog.cellsOf 4 = 1 := by kernel_rfl
theorem succ_of {k n : Nat} (h : k < n) : ∃ m, n = m + 1 := ⟨n - 1, by omega⟩
theorem Try.manyT : ∃ m, Try.prog.types.size = m + 1 := succ_of Try.rowS
theorem keyS_any (x : OvS) : ∃ l, keyOf Try.prog 125 (encS x) = some l := by
  have hw := WalkArith.wf_i64 (n := x.t.1) (by have := x.t.2; omega)
  have hf : (encS x).formed Try.prog 125 = true := by simp [encS, Value.formed, Try.underlying125, Try.cellsS]
  unfold keyOf
  rw [Try.underlying125]
  dsimp only
  rw [Try.keyTypeS, hf]
  obtain ⟨m, hm⟩ := Try.manyT
  rw [hm]
  simp [Program.keyLits, hw, Try.underlying125, Try.underlying3, Try.underlying4, Try.cellsS, Try.cellsI, Try.cellsB, encS, Value.cells]
theorem keyS : KeyEnc Try.prog 125 encS :=
  ⟨Keyed.of_law Try.lawS, keyS_any, fun x y h => by
    cases x; cases y
    unfold encS at h
    simp at h
    obtain ⟨h1, h2⟩ := h
    rw [I64.same h1, h2]⟩
end Go.Proofs.Ytkkchoinfdfiaaa
