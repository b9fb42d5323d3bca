import Derived.DeepKeys4
import Derived.ChangeAt2
import Derived.Test.YtbcciokmlkofkaaGreatWH13
set_option linter.unusedVariables false
set_option linter.unusedSimpArgs false
/- Layer 1: maps from the states of an oven. -/
namespace Go.Proofs.YtbcciokmlkofkaaGreat
open Go.RowKit Go.Q Go.Shelf Go.Maps
/-- a state of an oven: a temperature, and whether it heated -/
structure OvS where
  t : I64
  h : Bool
deriving DecidableEq
def encS (x : OvS) : Value := .agg #[.int .i64 x.t.1, .bool x.h]
theorem Tryz.laidOut : laidOutB Tryz.prog = true := by kernel_rfl
theorem Tryz.rowS : (107 : TypeId) < Tryz.prog.types.size := of_decide_eq_true (by kernel_rfl)
theorem Tryz.wideS : (match Tryz.prog.underlying 107 with | some (.array _ _) | some (.struct _) => true | _ => false) = true := by rw [Tryz.underlying107]
set_option maxRecDepth 100000 in
theorem Tryz.lawS : WideMaps.KeyLaw Tryz.prog 107 := deep_law_laid Tryz.laidOut (m := 2) (by omega) Tryz.rowS (by kernel_rfl) Tryz.wideS
theorem Tryz.keyTypeS : Tryz.prog.keyType 107 = true := by kernel_rfl
theorem Tryz.cellsS : Tryz.prog.cellsOf 107 = 2 := by kernel_rfl
theorem Tryz.cellsI : Tryz.prog.cellsOf 3 = 1 := by kernel_rfl
theorem Tryz.cellsB : Tryz.prog.cellsOf 4 = 1 := by kernel_rfl
theorem succ_of {k n : Nat} (h : k < n) : ∃ m, n = m + 1 := ⟨n - 1, by omega⟩
theorem Tryz.manyT : ∃ m, Tryz.prog.types.size = m + 1 := succ_of Tryz.rowS
theorem keyS_any (x : OvS) : ∃ l, keyOf Tryz.prog 107 (encS x) = some l := by
  have hw := WalkArith.wf_i64 (n := x.t.1) (by have := x.t.2; omega)
  have hf : (encS x).formed Tryz.prog 107 = true := by simp [encS, Value.formed, Tryz.underlying107, Tryz.cellsS]
  unfold keyOf
  rw [Tryz.underlying107]
  dsimp only
  rw [Tryz.keyTypeS, hf]
  obtain ⟨m, hm⟩ := Tryz.manyT
  rw [hm]
  simp [Program.keyLits, hw, Tryz.underlying107, Tryz.underlying3, Tryz.underlying4, Tryz.cellsS, Tryz.cellsI, Tryz.cellsB, encS, Value.cells]
theorem keyS : KeyEnc Tryz.prog 107 encS :=
  ⟨Keyed.of_law Tryz.lawS, keyS_any, fun x y h => by
    cases x; cases y
    unfold encS at h
    simp at h
    obtain ⟨h1, h2⟩ := h
    rw [I64.same h1, h2]⟩
end Go.Proofs.YtbcciokmlkofkaaGreat
