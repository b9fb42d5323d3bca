import Derived.Test.YtcijneecjkpebaaU5
set_option linter.unusedVariables false
set_option linter.unusedSimpArgs false
/- Layer 8 (library) in plain Lean: how far a root, and a quotient, are from the exact one; a greater first argument. -/
namespace Go.Q
theorem root_exact {n : Int} (hn : 0 ≤ n ∧ n ≤ 8388607) : valQ 1 [n] * valQ 1 [n] < 8388608 * (n + 1) ∧ (valQ 1 [n] < 8388607 → 8388608 * (n + 1) ≤ (valQ 1 [n] + 1) * (valQ 1 [n] + 1)) := by
  obtain ⟨h1, h2, h3, h4⟩ := val_spec 1 [n] hn.1
  generalize valQ 1 [n] = r at *
  unfold fitsP testQ mulQ argQ at h3 h4
  simp at h3 h4
  refine ⟨by omega, fun hr => ?_⟩
  rcases h4 with h4 | h4
  · omega
  · generalize (r + 1) * (r + 1) = x at *
    omega
theorem quot_exact {n d : Int} (hn : 0 ≤ n ∧ n ≤ 8388607) : valQ 2 [n, d] * d < 8388608 * (n + 1) ∧ (valQ 2 [n, d] < 8388607 → 8388608 * (n + 1) ≤ (valQ 2 [n, d] + 1) * d) := by
  obtain ⟨h1, h2, h3, h4⟩ := val_spec 2 [n, d] hn.1
  generalize valQ 2 [n, d] = r at *
  unfold fitsP testQ mulQ argQ at h3 h4
  simp at h3 h4
  refine ⟨by omega, fun hr => ?_⟩
  rcases h4 with h4 | h4
  · omega
  · generalize (r + 1) * d = x at *
    omega
theorem val_mono (k : Int) {a b : Int} (r : List Int) (ha : 0 ≤ a) (h : a ≤ b) (hr : ∀ x ∈ r, 0 ≤ x) : valQ k (a :: r) ≤ valQ k (b :: r) := by
  have e0 : ∀ c : Int, argQ (c :: r) 0 = c := fun _ => rfl
  have e1 : ∀ c e : Int, argQ (c :: r) 1 = argQ (e :: r) 1 := fun _ _ => rfl
  have hb1 : 0 ≤ argQ (b :: r) 1 := by
    unfold argQ
    cases r with
    | nil => simp
    | cons x r => simpa using hr x (List.mem_cons_self ..)
  obtain ⟨x0, x1, x2, -⟩ := val_spec k (a :: r) (by rw [e0]; exact ha)
  obtain ⟨y0, y1, y2, y3⟩ := val_spec k (b :: r) (by rw [e0]; omega)
  have hup : ∀ t, fitsP k (a :: r) t = true → fitsP k (b :: r) t = true := fun t ht => by
    unfold fitsP at ht ⊢
    rw [decide_eq_true_eq, e0] at *
    have : testQ k (b :: r) t = testQ k (a :: r) t := by unfold testQ; rw [e1 b a]
    omega
  rcases Int.lt_or_le (valQ k (b :: r)) (valQ k (a :: r)) with hl | hl
  · rcases y3 with e | e
    · omega
    · have := fits_mono hb1 (by omega) (show valQ k (b :: r) + 1 ≤ valQ k (a :: r) by omega) (hup _ x2)
      rw [e] at this; cases this
  · exact hl
/-- the same error, and no less -/
theorem value_mono (k : Int) {a b : Int} (r : List Int) (ha : 0 ≤ a ∧ a ≤ 8388607) (hb : 0 ≤ b ∧ b ≤ 8388607) (h : a ≤ b) (hr : ∀ x ∈ r, 0 ≤ x) : (valueE k (a :: r)).2 = (valueE k (b :: r)).2 ∧ (valueE k (a :: r)).1 ≤ (valueE k (b :: r)).1 := by
  have hna : numB a = true := by unfold numB; simp; exact ha
  have hnb : numB b = true := by unfold numB; simp; exact hb
  have e : askQ k (a :: r) = askQ k (b :: r) := by
    unfold askQ
    rw [List.any_cons, List.any_cons, hna, hnb, List.length_cons, List.length_cons]
  unfold valueE
  rw [e]
  split
  · exact ⟨rfl, val_mono k r ha.1 h hr⟩
  · exact ⟨rfl, Int.le_refl _⟩
end Go.Q
