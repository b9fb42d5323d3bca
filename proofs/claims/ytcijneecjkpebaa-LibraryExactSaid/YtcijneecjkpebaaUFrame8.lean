import Derived.Test.YtcijneecjkpebaaRows
import Derived.WalkKit
import Derived.ProofKit
import Derived.OpenShut
import Derived.ShutString
import Derived.ChangeOld
import Derived.Below
import Derived.Lib.SmallJoins
import Derived.Test.YtcijneecjkpebaaU3
set_option linter.unusedVariables false
set_option linter.unusedSimpArgs false
/- What an argument of the rows holds: a slice of ints (layer 8). -/
namespace Go.Proofs.Ytcijneecjkpebaa
open Go.ChangeShapes Go.WideShapes Go.ChangeAt Go.RowKit Go.Joins Go.Deep Go.Q
set_option linter.unusedVariables false
theorem rowOwn : ownKnob Try.prog.godebug = none := by kernel_rfl
theorem rowLaid : laidOutB Try.prog = true := by kernel_rfl
section
variable {H : Type} {enc : TypeId × Value → H} {w : World} {base : Nat} {spare : Nat → Bool} {held : Bool}
theorem ints_of_trod {n : Nat} {v : Value} {y : DataW H × List MemPlace} (h : DataW.trod enc Try.prog w base spare held n 22 [v] = some y) :
    ∃ a c xs, v = .slice a (xs : List Int).length c ∧ xs.length ≤ 9223372036854775807 ∧ IntsAt w a xs := by
  rcases open_ints Try.underlying22 Try.underlying3 (by kernel_rfl) h with ⟨hcs, _⟩ | ⟨x, l, c, zs, hcs, _, hl, hm, hz, _, hcell, _⟩
  · exact ⟨none, 0, [], List.cons.inj hcs |>.1, by simp, .inl rfl⟩
  · have hlz : l ≤ zs.length := by rw [hz]; split <;> omega
    have hm' : c ≤ 9223372036854775807 := Nat.le_trans hm (by decide)
    have hlen : (zs.take l).length = l := by simp [hlz]
    refine ⟨some x, c, zs.take l, by rw [hlen]; exact List.cons.inj hcs |>.1, by rw [hlen]; omega, ?_⟩
    by_cases h0 : l = 0
    · exact .inl (by simp [h0])
    obtain ⟨b, off, rfl, hc⟩ := ints_at hcell (by omega)
    refine .inr ⟨b, off, rfl, World.block_lt_of_cell? _ _ (hc 0 (by omega)), fun i hi => ?_⟩
    rw [hlen] at hi
    have e : (zs.take l)[i]?.getD 0 = zs.getD i 0 := by simp [List.getElem?_take, hi, List.getD]
    rw [e]
    exact hc i (by omega)
end
end Go.Proofs.Ytcijneecjkpebaa
