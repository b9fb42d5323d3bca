/- Layer 1 in plain Lean: what Read returns; a file of words is read as the words. -/
import Derived.Test.YtkkchoinfdfiaaaLR2
set_option linter.unusedVariables false
set_option linter.unusedSimpArgs false
namespace Go.Q
def byteF (bs : List Int) (i : Nat) : Int := bs[i]?.getD 0
def lineF (bs : List Int) : Ln := ⟨byteF bs 2, byteF bs 3, 2, 0, 0, 0⟩
def sizeF (bs : List Int) : Nat := many8 (byteF bs 3)
def wordF (bs : List Int) (k : Nat) : Int := accD (fun j => byteF bs (4 + k * sizeF bs + j)) (sizeF bs)
def wordsF (bs : List Int) : List Int := fstN (wordF bs) (byteF bs 2).toNat
/-- what is looked at before the words -/
def headB (bs : List Int) : Bool := (sum8 bs == 0) && decide (4 ≤ bs.length) && (byteF bs 0 == 77 && byteF bs 1 == 76) && okL (lineF bs)
def goodF (bs : List Int) : Bool := headB bs && (bs.length == 5 + (byteF bs 2).toNat * sizeF bs) && (wordsE (lineF bs) (wordsF bs) == 0)
/-- what Read returns -/
def readF (bs : List Int) : Int × Int × List Int × Int := if 400 < bs.length then (0, 0, [], 3) else if goodF bs = true then (byteF bs 2, byteF bs 3, wordsF bs, 0) else (0, 0, [], 6)
theorem readF_long {bs : List Int} (h : 400 < bs.length) : readF bs = (0, 0, [], 3) := by unfold readF; rw [if_pos h]
theorem readF_bad {bs : List Int} (h : bs.length ≤ 400) (hg : goodF bs = false) : readF bs = (0, 0, [], 6) := by unfold readF; rw [if_neg (by omega), hg]; rfl
theorem readF_good {bs : List Int} (h : bs.length ≤ 400) (hg : goodF bs = true) : readF bs = (byteF bs 2, byteF bs 3, wordsF bs, 0) := by unfold readF; rw [if_neg (by omega), if_pos hg]
theorem goodF_head {bs : List Int} (h : headB bs = false) : goodF bs = false := by unfold goodF; rw [h]; rfl
theorem head_sum {bs : List Int} (h : ¬ sum8 bs = 0) : headB bs = false := by unfold headB; simp [h]
theorem head_len {bs : List Int} (h : bs.length < 4) : headB bs = false := by
  unfold headB
  rw [show decide (4 ≤ bs.length) = false from decide_eq_false (by omega)]
  simp
theorem head_ml {bs : List Int} (h : (byteF bs 0 == 77 && byteF bs 1 == 76) = false) : headB bs = false := by unfold headB; rw [h]; simp
theorem head_line {bs : List Int} (h : okL (lineF bs) = false) : headB bs = false := by unfold headB; rw [h]; simp
theorem head_yes {bs : List Int} (h1 : sum8 bs = 0) (h2 : 4 ≤ bs.length) (h3 : (byteF bs 0 == 77 && byteF bs 1 == 76) = true) (h4 : okL (lineF bs) = true) : headB bs = true := by
  unfold headB
  rw [h3, h4, show decide (4 ≤ bs.length) = true from decide_eq_true h2, h1]
  rfl
theorem good_len {bs : List Int} (h : bs.length ≠ 5 + (byteF bs 2).toNat * sizeF bs) : goodF bs = false := by
  unfold goodF
  rw [show (bs.length == 5 + (byteF bs 2).toNat * sizeF bs) = false by simpa using h]
  simp
theorem good_words {bs : List Int} (h : wordsE (lineF bs) (wordsF bs) ≠ 0) : goodF bs = false := by
  unfold goodF
  rw [show (wordsE (lineF bs) (wordsF bs) == 0) = false by simpa using h]
  simp
theorem good_yes {bs : List Int} (h1 : headB bs = true) (h2 : bs.length = 5 + (byteF bs 2).toNat * sizeF bs) (h3 : wordsE (lineF bs) (wordsF bs) = 0) : goodF bs = true := by
  unfold goodF
  rw [h1, h3, show (bs.length == 5 + (byteF bs 2).toNat * sizeF bs) = true by simpa using h2]
  rfl
theorem size_bd {bs : List Int} (h : OkL (lineF bs)) : 1 ≤ sizeF bs ∧ sizeF bs ≤ 5 := by
  have hb : 1 ≤ byteF bs 3 ∧ byteF bs 3 ≤ 40 := h.bits
  unfold sizeF many8
  omega
theorem byteF_bd {bs : List Int} (h : ∀ x ∈ bs, 0 ≤ x ∧ x ≤ 255) (i : Nat) : 0 ≤ byteF bs i ∧ byteF bs i ≤ 255 := by
  unfold byteF
  by_cases hi : i < bs.length
  · rw [List.getElem?_eq_getElem hi]; exact h _ (List.getElem_mem hi)
  · rw [List.getElem?_eq_none (by omega)]; simp
end Go.Q
