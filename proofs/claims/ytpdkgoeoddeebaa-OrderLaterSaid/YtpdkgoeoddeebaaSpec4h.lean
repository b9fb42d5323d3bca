/- Layer 4 in plain Lean: a run that begins whole major cycles later. Not built yet. -/
import Derived.Test.YtpdkgoeoddeebaaSpec4g
set_option linter.unusedVariables false
set_option linter.unusedSimpArgs false
namespace Go.Q
def later (k : Int) (s : St) : St := { s with time := s.time + 16 * k }
theorem after_later (t a k : Int) : after (t + 16 * k) a = after t a + 16 * k := by unfold after; omega
theorem end_later (o : Ord) (t k : Int) : whenEnd o (t + 16 * k) = whenEnd o t + 16 * k := by
  unfold whenEnd
  simp only [after_later]
  repeat' split
  all_goals first | rfl | skip
  all_goals rw [show after (after t o.frm) o.to + 16 * k + 12 = after (after t o.frm) o.to + 12 + 16 * k by omega, after_later]
theorem until_later (k : Int) (s : St) : untilAt (later k s) = untilAt s + 16 * k := by
  show whenUntil (ordAt s) (s.time + 16 * k) (negAt s) = whenUntil (ordAt s) s.time (negAt s) + 16 * k
  unfold whenUntil
  rw [end_later, after_later]
theorem do_later (k : Int) (s : St) (o : Ord) : doQ (later k s) o = later k (doQ s o) := by
  unfold doQ later wordAt
  dsimp only
  repeat' split
  all_goals rfl
theorem why_later (k : Int) (s : St) : whyAt (later k s) = whyAt s ∨ whyAt s = 4 ∨ whyAt (later k s) = 4 := by
  have e : whyAt (later k s) = if (ordAt s).op = 0 then 1 else if (ordAt s).op = 6 ∧ s.taken = s.tape.length then 2 else if (ordAt s).op = 7 ∧ s.printed.length = 200 then 3 else if 1000000000 < untilAt (later k s) then 4 else 0 := rfl
  rw [e]
  unfold whyAt
  by_cases h1 : (ordAt s).op = 0
  · simp [h1]
  rw [if_neg h1, if_neg h1]
  by_cases h2 : (ordAt s).op = 6 ∧ s.taken = s.tape.length
  · simp [h2]
  rw [if_neg h2, if_neg h2]
  by_cases h3 : (ordAt s).op = 7 ∧ s.printed.length = 200
  · simp [h3]
  rw [if_neg h3, if_neg h3]
  by_cases h4 : 1000000000 < untilAt s <;> by_cases h5 : 1000000000 < untilAt (later k s) <;> simp [h4, h5]
theorem step_later (k : Int) (s : St) (h : whyAt (later k s) = whyAt s) : stepQ (later k s) = later k (stepQ s) := by
  unfold stepQ
  rw [h]
  by_cases h0 : whyAt s = 0
  · rw [if_pos h0, if_pos h0]
    have e1 : ordAt (later k s) = ordAt s := rfl
    have e2 : negAt (later k s) = negAt s := rfl
    rw [e1, e2, do_later, until_later]
    rfl
  · rw [if_neg h0, if_neg h0]
    rfl
theorem run_later (k : Int) : ∀ (n : Nat) (s : St), (runQ n s).why ≠ 4 → (runQ n (later k s)).why ≠ 4 → runQ n (later k s) = later k (runQ n s)
  | 0, _, _, _ => rfl
  | n + 1, s, h1, h2 => by
    have hw : (later k s).why = s.why := rfl
    by_cases h : s.why = 0
    · have e1 : runQ (n + 1) s = runQ n (stepQ s) := by simp [runQ, h]
      have e2 : runQ (n + 1) (later k s) = runQ n (stepQ (later k s)) := by simp [runQ, hw, h]
      rw [e1] at h1
      rw [e2] at h2
      have g1 := stepQ_why h
      have g2 := stepQ_why (s := later k s) (hw.trans h)
      rcases why_later k s with hs | hs | hs
      · rw [e1, e2, step_later k s hs]
        rw [step_later k s hs] at h2
        exact run_later k n _ h1 h2
      · rw [hs] at g1
        rw [runQ_end (by rw [g1]; decide) n, g1] at h1
        exact absurd rfl h1
      · rw [hs] at g2
        rw [runQ_end (by rw [g2]; decide) n, g2] at h2
        exact absurd rfl h2
    · rw [runQ_end h, runQ_end (hw ▸ h)]
end Go.Q
