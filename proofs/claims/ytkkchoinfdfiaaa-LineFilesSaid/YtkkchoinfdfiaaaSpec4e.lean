/- Layer 4 in plain Lean, on: what Run, Trace and Begin return. -/
import Derived.Test.YtkkchoinfdfiaaaSpec4d
set_option linter.unusedVariables false
set_option linter.unusedSimpArgs false
namespace Go.Q
open Go.RowKit
def zst : St := ⟨[], [], 0, [], 0, 0, 0, 0⟩
def runE (s : St) (most : Int) : St × Int := if askedQ s most = 0 then (runQ most.toNat s, 0) else (zst, askedQ s most)
def traceE (s : St) (most : Int) : List Stp × Int := if askedQ s most = 0 then (traceQ most.toNat s, 0) else ([], askedQ s most)
theorem asked_ok {s : St} {most : Int} (h : askedQ s most = 0) : (checkQ s).2.2 = 0 ∧ inB most 0 5000 = true := by
  by_cases h1 : (checkQ s).2.2 = 0
  · refine ⟨h1, ?_⟩
    cases h2 : inB most 0 5000 with
    | true => rfl
    | false => simp [askedQ, h1, h2] at h
  · simp [askedQ, h1] at h
theorem check_zero {s : St} (h : (checkQ s).2.2 = 0) : checkQ s = (0, 0, 0) := by
  unfold checkQ at *
  repeat' split at h
  all_goals first | (simp at h; done) | skip
  simp_all
  rw [if_neg (by omega), if_neg (by omega), if_neg (by omega)]
/-- cells of the block laid second -/
theorem box_at2 {w w1 : World} {o : Obj} {vs : Array Value} {T : TypeId} (h : Ext ((w.alloc o).alloc (.cells vs T)) w1) (i : Nat) {v : Value} (hv : vs[i]? = some v) : w1.cell? ⟨w.heap.size + 1, i, none⟩ = some v := by
  have := box_at h i hv
  simpa using this
theorem box_free2 {w w1 : World} {o : Obj} {vs : Array Value} {T : TypeId} (h : Ext ((w.alloc o).alloc (.cells vs T)) w1) (i : Nat) : w1.frozen? ⟨w.heap.size + 1, i, none⟩ = false := by
  have := box_free h i
  simpa using this
theorem ext_set8 {w w1 : World} {n : Nat} (h : Ext w w1) (hn : w.heap.size ≤ n) (a b c d e f g k : Value) : Ext w ((((((((w1.setCell ⟨n, 0, none⟩ a).setCell ⟨n, 1, none⟩ b).setCell ⟨n, 2, none⟩ c).setCell ⟨n, 3, none⟩ d).setCell ⟨n, 4, none⟩ e).setCell ⟨n, 5, none⟩ f).setCell ⟨n, 6, none⟩ g).setCell ⟨n, 7, none⟩ k) :=
  (((((((h.setCell (p := ⟨n, 0, none⟩) hn a).setCell (p := ⟨n, 1, none⟩) hn b).setCell (p := ⟨n, 2, none⟩) hn c).setCell (p := ⟨n, 3, none⟩) hn d).setCell (p := ⟨n, 4, none⟩) hn e).setCell (p := ⟨n, 5, none⟩) hn f).setCell (p := ⟨n, 6, none⟩) hn g).setCell (p := ⟨n, 7, none⟩) hn k
end Go.Q
