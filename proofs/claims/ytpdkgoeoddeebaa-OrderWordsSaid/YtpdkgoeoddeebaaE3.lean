/- Contract: OrderWords returns true. -/
import Derived.Test.YtpdkgoeoddeebaaD2
set_option linter.unusedVariables false
set_option linter.unusedSimpArgs false
namespace Go.Proofs.Ytpdkgoeoddeebaa
open Go.RowKit Go.Q

set_option maxRecDepth 100000 in
set_option maxHeartbeats 4000000 in
theorem words_any (a b c d n : Int) (w : World) : Calls Try.prog 11 #[.agg #[.int .i64 a, .int .i64 b, .int .i64 c, .int .i64 d], .int .i64 n] w fun e w' => e = .returned (.bool true) ∧ Ext w w' := by
  have h1 := fun W => encode_any a b c d W
  have h2 := fun W => rencode_any a b c d W
  have h3 := fun W => decodeE_any n W
  have h4 := fun W => rdecodeE_any n W
  have h5 := fun W => signedE_any n W
  have h6 := fun W => rsignedE_any n W
  unfold ovE at h3 h4
  generalize encodeQ ⟨a, b, c, d⟩ = p at h1 h2
  generalize decQ n = q at h3 h4
  generalize signedQ n = r at h5 h6
  obtain ⟨p1, p2⟩ := p
  obtain ⟨⟨o1, o2, o3, o4⟩, q5⟩ := q
  obtain ⟨r1, r2⟩ := r
  go_enter Try.func11, Try.ntmps11
  go_wp2_with fail
  refine (h1 _).mono ?_
  rintro e w1 ⟨rfl, E1⟩
  have q0 := box_at (v := .int .i64 a) E1 0 rfl
  have q1 := box_at (v := .int .i64 b) E1 1 rfl
  have q2 := box_at (v := .int .i64 c) E1 2 rfl
  have q3 := box_at (v := .int .i64 d) E1 3 rfl
  clear h1
  go_wp2_with fail
  refine (h2 _).mono ?_
  rintro e w2 ⟨rfl, E2⟩
  clear h2
  go_wp2_with fail
  refine (h3 _).mono ?_
  rintro e w3 ⟨rfl, E3⟩
  clear h3
  go_wp2_with fail
  refine (h4 _).mono ?_
  rintro e w4 ⟨rfl, E4⟩
  clear h4
  have s0 := fun ob => box_at (v := .int .i64 o1) (Ext.alloc E4 ob) 0 rfl
  have s1 := fun ob => box_at (v := .int .i64 o2) (Ext.alloc E4 ob) 1 rfl
  have s2 := fun ob => box_at (v := .int .i64 o3) (Ext.alloc E4 ob) 2 rfl
  have s3 := fun ob => box_at (v := .int .i64 o4) (Ext.alloc E4 ob) 3 rfl
  go_wp2_with fail
  refine (h5 _).mono ?_
  rintro e w5 ⟨rfl, E5⟩
  clear h5
  go_wp2_with fail
  refine (h6 _).mono ?_
  rintro e w6 ⟨rfl, E6⟩
  clear h6
  go_wp2_with (go_at_call 19; refine (awake_any _).mono ?_; rintro e w7 ⟨rfl, E7⟩)
  refine bodyPost_ret (v := .bool true) (by simp [results, Try.results11, go_sem]) rfl ⟨rfl, ?_⟩
  refine Ext.comp (by first | with_reducible exact E1 | with_reducible exact E1.old | with_reducible exact E1.old.old | with_reducible exact E1.old.old.old) ?_
  refine Ext.comp (by first | with_reducible exact E2 | with_reducible exact E2.old | with_reducible exact E2.old.old | with_reducible exact E2.old.old.old) ?_
  refine Ext.comp (by first | with_reducible exact E3 | with_reducible exact E3.old | with_reducible exact E3.old.old | with_reducible exact E3.old.old.old) ?_
  refine Ext.comp (by first | with_reducible exact E4 | with_reducible exact E4.old | with_reducible exact E4.old.old | with_reducible exact E4.old.old.old) ?_
  refine Ext.comp (by first | with_reducible exact E5 | with_reducible exact E5.old | with_reducible exact E5.old.old | with_reducible exact E5.old.old.old) ?_
  refine Ext.comp (by first | with_reducible exact E6 | with_reducible exact E6.old | with_reducible exact E6.old.old | with_reducible exact E6.old.old.old) ?_
  exact (by first | with_reducible exact E7 | with_reducible exact E7.old | with_reducible exact E7.old.old | with_reducible exact E7.old.old.old)
end Go.Proofs.Ytpdkgoeoddeebaa
