/- Contract: OrderEnded returns true. -/
import Derived.Test.YtjfggepgjpdebaaD2
import Derived.Test.YtjfggepgjpdebaaG1
import Derived.Outline
set_option linter.unusedVariables false
set_option linter.unusedSimpArgs false
namespace Go.Proofs.Ytjfggepgjpdebaa
open Go.RowKit Go.Q

theorem valid_bd {s : St} (h : Valid s) : StBd s := ⟨by rw [h.len]; decide, Nat.le_trans h.tlen (by decide), Nat.le_trans h.plen (by decide)⟩
/-- what Run returns, in two ways -/
theorem runE_ways (s : St) (n : Nat) (hn : n ≤ 5000) : (∃ er, er ≠ 0 ∧ runE s n = (zst, er)) ∨ (Valid s ∧ runE s n = (runQ n s, 0)) := by
  by_cases h : askedQ s n = 0
  · exact .inr ⟨valid_of_check (asked_ok h).1, by simp [runE, h]⟩
  · exact .inl ⟨_, h, by simp [runE, h]⟩
theorem runE_valid {s : St} (h : Valid s) (n : Nat) (hn : n ≤ 5000) : runE s n = (runQ n s, 0) := by
  have : askedQ s n = 0 := asked_of_valid h (by omega)
  simp [runE, this]

end Go.Proofs.Ytjfggepgjpdebaa
