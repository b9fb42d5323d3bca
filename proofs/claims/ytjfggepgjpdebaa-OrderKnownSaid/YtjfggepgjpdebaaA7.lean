/- Contracts: When (both). -/
import Derived.Test.YtjfggepgjpdebaaA6
set_option linter.unusedVariables false
set_option linter.unusedSimpArgs false
namespace Go.Proofs.Ytjfggepgjpdebaa
open Go.RowKit Go.Q

/-- three numbers as the results of a call -/
def v3 (p : Int × Int × Int) : Value := .tuple #[.int .i64 p.1, .int .i64 p.2.1, .int .i64 p.2.2]

set_option maxHeartbeats 1000000 in
theorem whenE_any (a b c d t : Int) (ng : Bool) (w : World) :
    Calls Try.prog 23 #[.agg #[.int .i64 a, .int .i64 b, .int .i64 c, .int .i64 d], .int .i64 t, .bool ng] w fun e w' => e = .returned (v3 (whenQ ⟨a, b, c, d⟩ t ng)) ∧ Ext w w' := by
  cases h : ordB ⟨a, b, c, d⟩ with
  | false =>
    have e : whenQ ⟨a, b, c, d⟩ t ng = (0, 0, 7) := by simp [whenQ, h]
    rw [e]
    go_enter Try.func23, Try.ntmps23
    go_wp2_with (go_at_call 62; refine (strange_any a b c d _).mono ?_; rintro e w' ⟨rfl, hb'⟩)
    go_ret3
    exact ⟨rfl, hb'.old⟩
  | true =>
    cases ht : inB t 0 1000000000 with
    | false =>
      have e : whenQ ⟨a, b, c, d⟩ t ng = (0, 0, 7) := by simp [whenQ, ht]
      rw [e]
      go_enter Try.func23, Try.ntmps23
      go_wp2_with fail
      refine (strange_any a b c d _).mono ?_
      rintro e w1 ⟨rfl, hb⟩
      go_wp2_with (go_at_call 51; refine (out_one _ t _ _ (by simp) (by simp)).mono ?_; rintro e w' ⟨rfl, hb'⟩)
      go_ret3
      exact ⟨rfl, hb.old.comp hb'.old⟩
    | true =>
      obtain ⟨t0, t1⟩ := inB_bd ht
      have hz := when_any a b c d t ng
      cases ha : a == 0 with
      | true =>
        obtain rfl : a = 0 := by simpa using ha
        have e : whenQ ⟨0, b, c, d⟩ t ng = (0, 0, 2) := by simp [whenQ, ht, h]
        rw [e]
        clear hz
        go_enter Try.func23, Try.ntmps23
        go_wp2_with fail
        refine (strange_any 0 b c d _).mono ?_
        rintro e w1 ⟨rfl, hb⟩
        go_wp2_with fail
        refine (out_one _ t _ _ (by simp) (by simp)).mono ?_
        rintro e w2 ⟨rfl, hb2⟩
        have q0 := box_at (v := .int .i64 0) (hb.comp hb2.old) 0 rfl
        go_wp2
        go_ret3
        exact ⟨rfl, hb.old.comp hb2.old⟩
      | false =>
        have e : whenQ ⟨a, b, c, d⟩ t ng = (whenAt ⟨a, b, c, d⟩ ng, whenUntil ⟨a, b, c, d⟩ t ng, 0) := by
          have : a ≠ 0 := by simpa using ha
          simp [whenQ, ht, h, this]
        rw [e]
        go_enter Try.func23, Try.ntmps23
        go_wp2_with fail
        refine (strange_any a b c d _).mono ?_
        rintro e w1 ⟨rfl, hb⟩
        go_wp2_with fail
        refine (out_one _ t _ _ (by simp) (by simp)).mono ?_
        rintro e w2 ⟨rfl, hb2⟩
        have q0 := box_at (v := .int .i64 a) (hb.comp hb2.old) 0 rfl
        have q1 := box_at (v := .int .i64 b) (hb.comp hb2.old) 1 rfl
        have q2 := box_at (v := .int .i64 c) (hb.comp hb2.old) 2 rfl
        have q3 := box_at (v := .int .i64 d) (hb.comp hb2.old) 3 rfl
        go_wp2_with fail
        refine (hz _ h t0 t1).mono ?_
        rintro e w3 ⟨rfl, hb3⟩
        go_wp2
        go_ret3
        exact ⟨rfl, (hb.old.comp hb2.old).comp hb3⟩

end Go.Proofs.Ytjfggepgjpdebaa
