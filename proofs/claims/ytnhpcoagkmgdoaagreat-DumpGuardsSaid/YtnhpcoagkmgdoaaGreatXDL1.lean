import Derived.Test.YtnhpcoagkmgdoaaGreatX12
import Derived.Test.YtnhpcoagkmgdoaaGreatX27
import Derived.Test.YtnhpcoagkmgdoaaGreatX10
import Derived.Test.YtnhpcoagkmgdoaaGreatX6
import Derived.Test.YtnhpcoagkmgdoaaGreatX18
import Derived.Test.YtnhpcoagkmgdoaaGreatX9
set_option linter.unusedVariables false
set_option linter.unusedSimpArgs false
/- The law DumpTapes. -/
namespace Go.Q
open Go.RowKit
theorem punch_lt (ws : List Int) : ∀ r ∈ (punchE ws).1, r < 128 := by
 unfold punchE
 split
 ·intro r hr
  dsimp only at hr
  rw [tape_blocks, List.mem_flatMap] at hr
  obtain ⟨i, hi, hr⟩ := hr
  exact (tapeB_good (List.mem_range.1 hi)).lt r hr
 ·simp
theorem nat_bd {xs : List Nat} {m : Nat} (h : ∀ r ∈ xs, r < m) (hm : m ≤ 256) : ∀ x ∈ natI xs, 0 ≤ x ∧ x ≤ 255 := by
 intro x hx
 obtain ⟨r, hr, rfl⟩ := List.mem_map.1 hx
 have := h r hr
 omega
end Go.Q
namespace Go.Proofs.YtnhpcoagkmgdoaaGreat
open Go.RowKit Go.Q Go.Shelf Go.Maps
set_option maxHeartbeats 4000000
set_option maxRecDepth 100000
theorem conv_rows {W : World} {a : Option Addr} {n c : Nat} {xs : List Nat} (hI : BytesAt W a (natI xs)) (hn : xs.length = n) (hx : ∀ x ∈ natI xs, 0 ≤ x ∧ x ≤ 255) : (convert 63 9 (.slice a n c)).run Tryz.prog W = .ok (.string (strU (natI xs))) W := by
 have h := conv_bytes (c := c) hI hx
 rw [natI_length, hn] at h
 exact h
end Go.Proofs.YtnhpcoagkmgdoaaGreat
