/- Lemmas that the merged modules have left out (for texts behind them). -/
import Derived.Test.YtjfggepgjpdebaaM1
set_option linter.unusedVariables false
set_option linter.unusedSimpArgs false
namespace Go.Q
theorem upOf_bd (f : Nat → Bool) : ∀ n, 0 ≤ upOf f n ∧ upOf f n < 2 ^ n
  | 0 => by simp [upOf]
  | n + 1 => by
    have h := upOf_bd f n
    have e2 : (2 : Int) ^ (n + 1) = 2 * 2 ^ n := by rw [Int.pow_succ]; omega
    unfold upOf
    rw [e2]
    split <;> omega
theorem upOf_le {f : Nat → Bool} {n : Nat} (h : n ≤ 24) : 0 ≤ upOf f n ∧ upOf f n ≤ 16777215 := by
  have h1 := upOf_bd f n
  have h2 : 2 ^ n ≤ 2 ^ 24 := Nat.pow_le_pow_right (by decide) h
  have e := two_pow_cast n
  have h3 : (2 ^ 24 : Nat) = 16777216 := by decide
  omega
end Go.Q
