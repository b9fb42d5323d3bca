/- Layer 5 in plain Lean, on: what a beat changes. -/
import Derived.Test.YtjfggepgjpdebaaM1
set_option linter.unusedVariables false
set_option linter.unusedSimpArgs false
namespace Go.Q
theorem stepB_lines (b : PuB) : (stepB b).lines = b.lines := by unfold stepB; split <;> rfl
theorem multB_lines (b : PuB) : (multB b).lines = b.lines := by unfold multB; split <;> rfl
theorem multB_beat (b : PuB) : (multB b).beat = b.beat := by unfold multB; split <;> rfl
theorem pulsesB_beat (b : PuB) : (pulsesB b).beat = b.beat := by
  unfold pulsesB
  dsimp only
  split
  · split <;> rfl
  · rfl
theorem putB_get (ls : List (List Bool)) (l i : Nat) (x : Bool) (l' i' : Nat) (h : l' ≠ l ∨ i' ≠ i) : ((putB ls l i x)[l']?.getD [])[i']?.getD false = (ls[l']?.getD [])[i']?.getD false := by
  unfold putB
  by_cases hl : l' = l
  · subst hl
    have hi : i' ≠ i := h.elim (fun c => absurd rfl c) id
    by_cases h8 : l' < ls.length
    · rw [List.getElem?_set_self h8]
      simp only [Option.getD_some]
      rw [List.getElem?_set_ne (fun c => hi c.symm)]
    · have e1 : (ls.set l' ((ls[l']?.getD []).set i x))[l']? = none := List.getElem?_eq_none (by rw [List.length_set]; omega)
      have e2 : ls[l']? = none := List.getElem?_eq_none (by omega)
      rw [e1, e2]
  · rw [List.getElem?_set_ne (fun c => hl c.symm)]
theorem beatP_one {b : PuB} (hv : ValidB b) (i k : Nat) :
    ((beatP b).lines[i]?.getD [])[k]?.getD false = (b.lines[i]?.getD [])[k]?.getD false ∨
    ((i : Int) = (ordP b.now).to / 16 ∧ (k : Int) = (ordP b.now).to % 16 * 24 + b.beat ∧ b.now.clock % 16 = (ordP b.now).to % 16 ∧ (b.now.phase = 2 ∨ b.now.phase = 4)) := by
  unfold beatP
  split
  · exact .inl rfl
  split
  · exact .inl rfl
  rw [stepB_lines, multB_lines]
  unfold pulsesB
  dsimp only
  by_cases hc : comesP b.now = true
  · rw [if_pos hc]
    by_cases hr : replP b.now = true
    · rw [if_pos hr]
      dsimp only
      have hp : b.now.phase = 2 ∨ b.now.phase = 4 := by
        unfold replP at hr
        simp only [Bool.or_eq_true, decide_eq_true_eq, Bool.and_eq_true] at hr
        omega
      have ha : addrP b.now = (ordP b.now).to := by unfold addrP; rcases hp with h | h <;> rw [h] <;> simp
      have hA : adrB b.now = (ordP b.now).to.toNat := by unfold adrB; rcases hp with h | h <;> rw [h] <;> simp
      unfold comesP at hc
      rw [ha] at hc
      simp only [Bool.and_eq_true, decide_eq_true_eq] at hc
      have hbt := hv.beat
      rw [hA]
      by_cases hik : i = (ordP b.now).to.toNat / 16 ∧ k = (ordP b.now).to.toNat % 16 * 24 + b.beat.toNat
      · exact .inr ⟨by omega, by omega, by omega, hp⟩
      · exact .inl (putB_get _ _ _ _ _ _ (by omega))
    · rw [if_neg hr]; exact .inl rfl
  · rw [if_neg hc]; exact .inl rfl
theorem beatP_end {b : PuB} (hv : ValidB b) : (beatP b).now.why ≠ 0 ∨ (beatP b).beat = (b.beat + 1) % 24 := by
  have hbt := hv.beat
  unfold beatP
  split
  · rename_i h; exact .inl h
  split
  · exact .inl (by show (4 : Int) ≠ 0; decide)
  refine .inr ?_
  unfold stepB
  rw [multB_beat, pulsesB_beat]
  split
  · rename_i h; rw [h]; rfl
  · show b.beat + 1 = _; omega
end Go.Q
