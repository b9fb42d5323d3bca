/- Contract: OrderChecks returns true. Not built yet. -/
import Derived.Test.YtpdkgoeoddeebaaD2
set_option linter.unusedVariables false
set_option linter.unusedSimpArgs false
namespace Go.Proofs.Ytpdkgoeoddeebaa
open Go.RowKit Go.Q

set_option maxRecDepth 100000 in
set_option maxHeartbeats 4000000 in
theorem checks_any (v : Value) (s : St) (w : World) (h : StAt w v s) (hb : StBd s) : Calls Try.prog 3 #[v] w fun e w' => e = .returned (.bool true) ∧ Ext w w' := by
  have h1 := fun W (E : Ext w W) => check_any v s W (h.ext E) hb
  have h2 := fun W (E : Ext w W) => rcheck_any v s W (h.ext E) hb
  obtain ⟨a1, a2, a3, k1, k2, k3, rfl, _, _, _⟩ := h
  unfold v3 at h1 h2
  generalize checkQ s = p at h1 h2
  obtain ⟨x, y, z⟩ := p
  go_enter Try.func3, Try.ntmps3
  go_wp2_with fail
  refine (h1 _ ((Ext.refl w).alloc _)).mono ?_
  rintro e w1 ⟨rfl, E1⟩
  have q0 := box_at (v := .slice a1 s.store.length k1) E1 0 rfl
  have q1 := box_at (v := .slice a2 s.tape.length k2) E1 1 rfl
  have q2 := box_at (v := .int .i64 s.taken) E1 2 rfl
  have q3 := box_at (v := .slice a3 s.printed.length k3) E1 3 rfl
  have q4 := box_at (v := .int .i64 s.time) E1 4 rfl
  have q5 := box_at (v := .int .i64 s.at_) E1 5 rfl
  have q6 := box_at (v := .int .i64 s.done) E1 6 rfl
  have q7 := box_at (v := .int .i64 s.why) E1 7 rfl
  clear h1
  go_wp2_with fail
  refine (h2 _ E1.old).mono ?_
  rintro e w2 ⟨rfl, E2⟩
  clear h2
  go_wp2_with (go_at_call 19; refine (awake_any _).mono ?_; rintro e w3 ⟨rfl, E3⟩)
  refine bodyPost_ret (v := .bool true) (by simp [results, Try.results3, go_sem]) rfl ⟨rfl, ?_⟩
  exact E1.old.comp (E2.comp E3)
end Go.Proofs.Ytpdkgoeoddeebaa
