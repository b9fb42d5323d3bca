/- Layer 4 in plain Lean: each order of a trace, and the runs that it stands between. -/
import Derived.Test.YtpdkgoeoddeebaaSpec4g
set_option linter.unusedVariables false
set_option linter.unusedSimpArgs false
namespace Go.Q
/-- the k-th order of a trace -/
def stpAt (k : Nat) (s : St) : Stp := ⟨(runQ k s).at_, ordAt (runQ k s), (runQ k s).time, untilAt (runQ k s)⟩
theorem step_time {s : St} (h : whyAt s = 0) : (stepQ s).time = untilAt s ∧ (stepQ s).at_ = whenAt (ordAt s) (negAt s) := by
  unfold stepQ
  rw [if_pos h]
  exact ⟨rfl, rfl⟩
theorem step_stay {s : St} (h : whyAt s ≠ 0) : (stepQ s).time = s.time ∧ (stepQ s).at_ = s.at_ := by
  unfold stepQ
  rw [if_neg h]
  exact ⟨rfl, rfl⟩
theorem trace_law (s : St) : ∀ n, (∀ k, k < (traceQ n s).length → (traceQ n s)[k]? = some (stpAt k s) ∧ (runQ k s).why = 0 ∧ whyAt (runQ k s) = 0) ∧
    (runQ n s).time = (runQ (traceQ n s).length s).time ∧ (runQ n s).at_ = (runQ (traceQ n s).length s).at_ ∧ (traceQ n s).length ≤ n ∧ ((runQ n s).why = 0 → (traceQ n s).length = n)
  | 0 => ⟨fun k hk => by simp [traceQ] at hk, rfl, rfl, Nat.le_refl _, fun _ => rfl⟩
  | n + 1 => by
    obtain ⟨h1, h2, h3, h4, h5⟩ := trace_law s n
    rw [traceQ_snoc, runQ_snoc]
    by_cases hy : (runQ n s).why = 0
    · have hl := h5 hy
      by_cases hw : whyAt (runQ n s) = 0
      · have hs : (stepQ (runQ n s)).why = 0 := by rw [stepQ_why hy]; exact hw
        rw [if_pos ⟨hy, hs⟩, if_pos hy]
        have hlen : (traceQ n s ++ [(⟨(runQ n s).at_, ordAt (runQ n s), (runQ n s).time, (stepQ (runQ n s)).time⟩ : Stp)]).length = n + 1 := by simp [hl]
        have er : runQ (n + 1) s = stepQ (runQ n s) := by rw [runQ_snoc, if_pos hy]
        refine ⟨fun k hk => ?_, by rw [hlen, er], by rw [hlen, er], by rw [hlen]; exact Nat.le_refl _, fun _ => hlen⟩
        rw [hlen] at hk
        by_cases e : k = n
        · subst e
          refine ⟨?_, hy, hw⟩
          rw [List.getElem?_append_right (by omega), hl, Nat.sub_self]
          show some _ = some _
          rw [(step_time hw).1]
          rfl
        · have hk2 : k < (traceQ n s).length := by omega
          rw [List.getElem?_append_left hk2]
          exact h1 k hk2
      · have hs : (stepQ (runQ n s)).why ≠ 0 := by rw [stepQ_why hy]; exact hw
        rw [if_neg (fun c => hs c.2), if_pos hy]
        refine ⟨h1, ?_, ?_, by omega, fun c => absurd c hs⟩
        · rw [(step_stay hw).1]; exact h2
        · rw [(step_stay hw).2]; exact h3
    · rw [if_neg (fun c => hy c.1), if_neg hy]
      exact ⟨h1, h2, h3, by omega, fun c => absurd c hy⟩
/-- the order behind the k-th one -/
theorem next_law (s : St) {n k : Nat} (hk : k < (traceQ n s).length) : (runQ (k + 1) s).time = untilAt (runQ k s) ∧ (runQ (k + 1) s).at_ = whenAt (ordAt (runQ k s)) (negAt (runQ k s)) := by
  obtain ⟨h1, _⟩ := trace_law s n
  obtain ⟨_, hy, hw⟩ := h1 k hk
  rw [runQ_snoc, if_pos hy]
  exact step_time hw
end Go.Q
