/- Layer 4 in plain Lean: Decode and Encode undo one another; when the next order is taken. -/
import Derived.Test.YtpdkgoeoddeebaaSpec4e
set_option linter.unusedVariables false
set_option linter.unusedSimpArgs false
namespace Go.Q
theorem ordB_bd {o : Ord} (h : ordB o = true) : (0 ≤ o.op ∧ o.op ≤ 7) ∧ (0 ≤ o.frm ∧ o.frm ≤ 127) ∧ (0 ≤ o.to ∧ o.to ≤ 127) ∧ (0 ≤ o.nxt ∧ o.nxt ≤ 127) := by
  simp only [ordB, addrB, inB, Bool.and_eq_true, decide_eq_true_eq] at h
  omega
theorem ordB_mk {o : Ord} (h : (0 ≤ o.op ∧ o.op ≤ 7) ∧ (0 ≤ o.frm ∧ o.frm ≤ 127) ∧ (0 ≤ o.to ∧ o.to ≤ 127) ∧ (0 ≤ o.nxt ∧ o.nxt ≤ 127)) : ordB o = true := by
  simp only [ordB, addrB, inB, Bool.and_eq_true, decide_eq_true_eq]
  omega
theorem written_bd {o : Ord} (h : ordB o = true) : 0 ≤ written o ∧ written o ≤ 16777215 := by
  obtain ⟨h1, h2, h3, h4⟩ := ordB_bd h
  unfold written
  omega
theorem decode_written {o : Ord} (h : ordB o = true) : decodeQ (written o) = o := by
  obtain ⟨h1, h2, h3, h4⟩ := ordB_bd h
  obtain ⟨a, b, c, d⟩ := o
  simp only at h1 h2 h3 h4
  unfold decodeQ written
  simp only [Ord.mk.injEq]
  refine ⟨?_, ?_, ?_, ?_⟩ <;> omega
theorem decQ_written {o : Ord} (h : ordB o = true) : decQ (written o) = (o, 0) := by
  have hb := written_bd h
  have hw : wordB (written o) = true := by simp only [wordB, inB, Bool.and_eq_true, decide_eq_true_eq]; exact hb
  unfold decQ
  rw [if_pos hw, decode_written h]
theorem ordB_decode2 {n : Int} (h : wordB n = true) : ordB (decodeQ n) = true := by
  have hb := wordB_bd h
  refine ordB_mk ?_
  unfold decodeQ
  simp only
  refine ⟨?_, ?_, ?_, ?_⟩ <;> omega
theorem written_decode (n : Int) : written (decodeQ n) = n := by
  unfold decodeQ written
  simp only
  omega
theorem encodeQ_decode {n : Int} (h : wordB n = true) : encodeQ (decodeQ n) = (n, 0) := by
  unfold encodeQ
  rw [if_pos (ordB_decode2 h), written_decode]
/-- the time that is next with this place is 1 to 16 later -/
theorem after_bd (t a : Int) : t + 1 ≤ after t a ∧ after t a ≤ t + 16 ∧ (after t a - a) % 16 = 0 := by
  unfold after
  omega
theorem after_line (t a k : Int) : after t (a + 16 * k) = after t a := by
  unfold after
  omega
theorem after_wrap (t a k : Int) : after t ((a + 16 * k) % 128) = after t a := by
  unfold after
  omega
theorem until_place (o : Ord) (t : Int) (ng : Bool) : whenUntil o t ng % 16 = whenAt o ng % 16 := by
  have := after_bd (whenEnd o t) (whenAt o ng)
  unfold whenUntil
  omega
theorem until_most (o : Ord) (t : Int) (ng : Bool) : t + 2 ≤ whenUntil o t ng ∧ (o.op ≠ 4 → o.op = 5 ∨ o.op = 6 ∨ o.op = 7 → whenUntil o t ng ≤ t + 32) ∧ (o.op = 4 → t + 16 ≤ whenUntil o t ng ∧ whenUntil o t ng ≤ t + 76) ∧
    (o.op ≠ 4 → o.op ≠ 5 → o.op ≠ 6 → o.op ≠ 7 → t + 3 ≤ whenUntil o t ng ∧ whenUntil o t ng ≤ t + 48) := by
  have h := after_bd (whenEnd o t) (whenAt o ng)
  have h1 := after_bd t o.frm
  have h2 := after_bd t o.to
  have h3 := after_bd (after t o.frm) o.to
  have h4 := after_bd (after (after t o.frm) o.to + 12) o.to
  unfold whenUntil
  unfold whenEnd at *
  split at h <;> (try split at h) <;> (try split at h) <;> simp_all <;> omega
end Go.Q
