import Derived.Test.YtnhpcoagkmgdoaaX11
set_option linter.unusedVariables false
set_option linter.unusedSimpArgs false
/- A row of bytes of one's own: a byte is stored, a byte is read. -/
namespace Go.Proofs.Ytnhpcoagkmgdoaa
open Go.RowKit Go.Q Go.Joins
theorem own_setU {X : World} {g n c B : Nat} {xs : List Int} (h : X.ownsRow B 5 1 (.slice (some ⟨g, 0, none⟩) n c) n (ub xs)) (j : Nat) (v : Int) : (X.setCell ⟨g, j, none⟩ (.int .u8 v)).ownsRow B 5 1 (.slice (some ⟨g, 0, none⟩) n c) n (ub (xs.set j v)) := by
 obtain ⟨k1, _⟩ := h.stored j (.int .u8 v)
 unfold ub at k1 ⊢
 rw [List.map_set]
 exact k1
theorem own_cellU {X : World} {g n c B : Nat} {xs : List Int} (h : X.ownsRow B 5 1 (.slice (some ⟨g, 0, none⟩) n c) n (ub xs)) (j : Nat) (hj : j < xs.length) : X.cell? ⟨g, j, none⟩ = some (.int .u8 (xs[j]?.getD 0)) := by
 rcases own_bytes h with e | ⟨b, off, ha, _, hc⟩
 ·rw [e] at hj; exact absurd hj (Nat.not_lt_zero _)
 ·cases ha
  have := hc j hj
  rwa [Nat.zero_add] at this
end Go.Proofs.Ytnhpcoagkmgdoaa
