import Derived.Test.YtbcciokmlkofkaaGreatWSpec4b
set_option linter.unusedVariables false
set_option linter.unusedSimpArgs false
/- Layer 4 in plain Lean, on: what a checked state is; a run. -/
namespace Go.Q
theorem idxQ_all {p : Int → Bool} {xs : List Int} (h : ¬ 0 ≤ idxQ p xs) : ∀ x ∈ xs, p x = false := by
  have e := idxQ_nonneg p xs
  rw [decide_eq_false h] at e
  intro x hx
  have := List.any_eq_false.1 e.symm x hx
  simpa using this
theorem badW_no {n : Int} (h : badW n = false) : 0 ≤ n ∧ n ≤ 16777215 := wordB_bd (by simpa [badW] using h)
/-- the error of a state and a number of orders -/
def askedQ (s : St) (most : Int) : Int := if (checkQ s).2.2 ≠ 0 then (checkQ s).2.2 else if inB most 0 5000 = true then 0 else 7
theorem checkQ_err (s : St) : (checkQ s).2.2 = 0 ∨ (checkQ s).2.2 = 2 ∨ (checkQ s).2.2 = 3 ∨ (checkQ s).2.2 = 7 := by
  unfold checkQ
  repeat' split
  all_goals simp
theorem valid_of_check {s : St} (h : (checkQ s).2.2 = 0) : Valid s := by
  unfold checkQ at h
  split at h
  · simp at h
  split at h
  · simp at h
  split at h
  · simp at h
  split at h
  · simp at h
  split at h
  · simp at h
  split at h
  · simp at h
  rename_i h1 h2 h3 h4 h5 h6
  have h1' : lensB s = true := by simpa using h1
  have h5' : fieldsB s = true := by simpa using h5
  simp only [lensB, Bool.and_eq_true, beq_iff_eq, decide_eq_true_eq] at h1'
  simp only [fieldsB, Bool.and_eq_true, addrB] at h5'
  obtain ⟨⟨⟨⟨a1, a2⟩, a3⟩, a4⟩, a5⟩ := h5'
  exact ⟨h1'.1.1, h1'.1.2, h1'.2, fun x hx => badW_no (idxQ_all h2 x hx), fun x hx => badW_no (idxQ_all h3 x hx), fun x hx => badW_no (idxQ_all h4 x hx),
    inB_bd a1, inB_bd a2, inB_bd a3, inB_bd a4, inB_bd a5, by simpa using h6⟩
end Go.Q
