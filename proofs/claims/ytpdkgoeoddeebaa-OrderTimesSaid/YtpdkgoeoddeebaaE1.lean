/- Contract: OrderTimes returns true. -/
import Derived.Test.YtpdkgoeoddeebaaD2
namespace Go.Proofs.Ytpdkgoeoddeebaa
open Go.RowKit Go.Q

set_option maxRecDepth 100000 in
set_option maxHeartbeats 4000000 in
theorem times_any (a b c d t : Int) (neg : Bool) (w : World) : Calls Try.prog 13 #[.agg #[.int .i64 a, .int .i64 b, .int .i64 c, .int .i64 d], .int .i64 t, .bool neg] w fun e w' => e = .returned (.bool true) ∧ Ext w w' := by
  have h1 := fun W => whenE_any a b c d t neg W
  have h2 := fun W => rwhenE_any a b c d t neg W
  unfold v3 at h1 h2
  generalize whenQ ⟨a, b, c, d⟩ t neg = p at h1 h2
  obtain ⟨x, y, z⟩ := p
  go_enter Try.func13, Try.ntmps13
  go_wp2_with fail
  refine (h1 _).mono ?_
  rintro e w1 ⟨rfl, E1⟩
  have q0 := box_at (v := .int .i64 a) E1 0 rfl
  have q1 := box_at (v := .int .i64 b) E1 1 rfl
  have q2 := box_at (v := .int .i64 c) E1 2 rfl
  have q3 := box_at (v := .int .i64 d) E1 3 rfl
  clear h1
  go_wp2_with fail
  refine (h2 _).mono ?_
  rintro e w2 ⟨rfl, E2⟩
  clear h2
  go_wp2_with (go_at_call 19; refine (awake_any _).mono ?_; rintro e w3 ⟨rfl, E3⟩)
  refine bodyPost_ret (v := .bool true) (by simp [results, Try.results13, go_sem]) rfl ⟨rfl, ?_⟩
  exact E1.old.comp (E2.comp E3)
end Go.Proofs.Ytpdkgoeoddeebaa
