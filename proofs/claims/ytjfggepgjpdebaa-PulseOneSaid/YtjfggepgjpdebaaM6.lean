import Derived.Test.YtjfggepgjpdebaaM4
set_option linter.unusedVariables false
set_option linter.unusedSimpArgs false
/- pulse.Check: the words, the product, the count. -/
namespace Go.Proofs.Ytjfggepgjpdebaa
open Go.RowKit Go.Q
set_option maxRecDepth 100000 in
set_option maxHeartbeats 4000000 in
theorem pc_b4 {a1 a2 a3 : Option Addr} {n2 n3 c1 c2 c3 : Nat} {s : Pu} {w : World} (h : PMid a1 a2 a3 n2 n3 c1 c2 c3 s w) (h0 : inB s.taken 0 s.tape.length = true) (h1 : inB s.clock 0 1000000000 = true) (h2 : inB s.at_ 0 127 = true) (h3 : inB s.phase 0 4 = true) (h4 : inB s.done 0 s.clock = true) (h5 : inB s.why 0 4 = true) (g : s.other < 0) :
    Calls Try.prog 45 #[psv a1 a2 a3 128 c1 n2 c2 n3 c3 s] w fun e w' => e = .returned (v3 (5, 0, 7)) ∧ Ext w w' := by
  obtain ⟨hc, rfl, rfl, b2, b3⟩ := h
  have k0 := fun W => pout_any s.taken 0 s.tape.length W
  rw [h0] at k0
  have k1 := fun W => pout_any s.clock 0 1000000000 W
  rw [h1] at k1
  have k2 := fun W => pout_any s.at_ 0 127 W
  rw [h2] at k2
  have k3 := fun W => pout_any s.phase 0 4 W
  rw [h3] at k3
  have k4 := fun W => pout_any s.done 0 s.clock W
  rw [h4] at k4
  have k5 := fun W => pout_any s.why 0 4 W
  rw [h5] at k5
  clear h0 h1 h2 h3 h4 h5
  go_enter Try.func45, Try.ntmps45
  go_wp2_with fail
  refine (hc _ (by repeat (first | with_reducible exact Ext.refl _ | with_reducible refine Ext.alloc ?_ _ | with_reducible refine Below.drew ?_))).mono ?_
  rintro e w1 ⟨rfl, E1⟩
  have q0 := box_at (v := .slice a1 128 c1) E1 0 rfl
  have q1 := box_at (v := .slice a2 s.tape.length c2) E1 1 rfl
  have q2 := box_at (v := .int .i64 s.taken) E1 2 rfl
  have q3 := box_at (v := .slice a3 s.printed.length c3) E1 3 rfl
  have q4 := box_at (v := .int .i64 s.clock) E1 4 rfl
  have q5 := box_at (v := .int .i64 s.at_) E1 5 rfl
  have q6 := box_at (v := .int .i64 s.phase) E1 6 rfl
  have q7 := box_at (v := .int .i64 s.order) E1 7 rfl
  have q8 := box_at (v := .int .i64 s.operand) E1 8 rfl
  have q9 := box_at (v := .int .i64 s.other) E1 9 rfl
  have q10 := box_at (v := .int .i64 s.product) E1 10 rfl
  have q11 := box_at (v := .int .i64 s.count) E1 11 rfl
  have q12 := box_at (v := .int .i64 s.done) E1 12 rfl
  have q13 := box_at (v := .int .i64 s.why) E1 13 rfl
  go_wp2_with fail
  refine (k0 _).mono ?_
  rintro e w2 ⟨rfl, rfl⟩
  go_wp2_with fail
  refine (k1 _).mono ?_
  rintro e w2 ⟨rfl, rfl⟩
  go_wp2_with fail
  refine (k2 _).mono ?_
  rintro e w2 ⟨rfl, rfl⟩
  go_wp2_with fail
  refine (k3 _).mono ?_
  rintro e w2 ⟨rfl, rfl⟩
  go_wp2_with fail
  refine (k4 _).mono ?_
  rintro e w2 ⟨rfl, rfl⟩
  go_wp2_with fail
  refine (k5 _).mono ?_
  rintro e w2 ⟨rfl, rfl⟩
  clear k0 k1 k2 k3 k4 k5
  go_upto_region 7 with fail
  go_cut [57] (fun s57 wx => s57 = .bool true ∧ wx = w1)
  case first =>
    go_wp2_with (go_at_call 64; refine (pout_dec _ _ _ _).mono ?_; rintro e w' ⟨rfl, rfl⟩)
    all_goals
      go_meet
      exact ⟨congrArg Value.bool (by first | rfl | (simp only [Bool.or_eq_true, decide_eq_true_eq]; omega)), rfl⟩
  case rest =>
    obtain ⟨rfl, rfl⟩ := hcut
    go_wp2_with fail
    go_ret3
    exact ⟨rfl, E1.old⟩
set_option maxRecDepth 100000 in
set_option maxHeartbeats 4000000 in
theorem pc_b5 {a1 a2 a3 : Option Addr} {n2 n3 c1 c2 c3 : Nat} {s : Pu} {w : World} (h : PMid a1 a2 a3 n2 n3 c1 c2 c3 s w) (h0 : inB s.taken 0 s.tape.length = true) (h1 : inB s.clock 0 1000000000 = true) (h2 : inB s.at_ 0 127 = true) (h3 : inB s.phase 0 4 = true) (h4 : inB s.done 0 s.clock = true) (h5 : inB s.why 0 4 = true) (g : 16777215 < s.other) :
    Calls Try.prog 45 #[psv a1 a2 a3 128 c1 n2 c2 n3 c3 s] w fun e w' => e = .returned (v3 (5, 0, 7)) ∧ Ext w w' := by
  obtain ⟨hc, rfl, rfl, b2, b3⟩ := h
  have k0 := fun W => pout_any s.taken 0 s.tape.length W
  rw [h0] at k0
  have k1 := fun W => pout_any s.clock 0 1000000000 W
  rw [h1] at k1
  have k2 := fun W => pout_any s.at_ 0 127 W
  rw [h2] at k2
  have k3 := fun W => pout_any s.phase 0 4 W
  rw [h3] at k3
  have k4 := fun W => pout_any s.done 0 s.clock W
  rw [h4] at k4
  have k5 := fun W => pout_any s.why 0 4 W
  rw [h5] at k5
  clear h0 h1 h2 h3 h4 h5
  go_enter Try.func45, Try.ntmps45
  go_wp2_with fail
  refine (hc _ (by repeat (first | with_reducible exact Ext.refl _ | with_reducible refine Ext.alloc ?_ _ | with_reducible refine Below.drew ?_))).mono ?_
  rintro e w1 ⟨rfl, E1⟩
  have q0 := box_at (v := .slice a1 128 c1) E1 0 rfl
  have q1 := box_at (v := .slice a2 s.tape.length c2) E1 1 rfl
  have q2 := box_at (v := .int .i64 s.taken) E1 2 rfl
  have q3 := box_at (v := .slice a3 s.printed.length c3) E1 3 rfl
  have q4 := box_at (v := .int .i64 s.clock) E1 4 rfl
  have q5 := box_at (v := .int .i64 s.at_) E1 5 rfl
  have q6 := box_at (v := .int .i64 s.phase) E1 6 rfl
  have q7 := box_at (v := .int .i64 s.order) E1 7 rfl
  have q8 := box_at (v := .int .i64 s.operand) E1 8 rfl
  have q9 := box_at (v := .int .i64 s.other) E1 9 rfl
  have q10 := box_at (v := .int .i64 s.product) E1 10 rfl
  have q11 := box_at (v := .int .i64 s.count) E1 11 rfl
  have q12 := box_at (v := .int .i64 s.done) E1 12 rfl
  have q13 := box_at (v := .int .i64 s.why) E1 13 rfl
  go_wp2_with fail
  refine (k0 _).mono ?_
  rintro e w2 ⟨rfl, rfl⟩
  go_wp2_with fail
  refine (k1 _).mono ?_
  rintro e w2 ⟨rfl, rfl⟩
  go_wp2_with fail
  refine (k2 _).mono ?_
  rintro e w2 ⟨rfl, rfl⟩
  go_wp2_with fail
  refine (k3 _).mono ?_
  rintro e w2 ⟨rfl, rfl⟩
  go_wp2_with fail
  refine (k4 _).mono ?_
  rintro e w2 ⟨rfl, rfl⟩
  go_wp2_with fail
  refine (k5 _).mono ?_
  rintro e w2 ⟨rfl, rfl⟩
  clear k0 k1 k2 k3 k4 k5
  go_upto_region 7 with fail
  go_cut [57] (fun s57 wx => s57 = .bool true ∧ wx = w1)
  case first =>
    go_wp2_with (go_at_call 64; refine (pout_dec _ _ _ _).mono ?_; rintro e w' ⟨rfl, rfl⟩)
    all_goals
      go_meet
      exact ⟨congrArg Value.bool (by first | rfl | (simp only [Bool.or_eq_true, decide_eq_true_eq]; omega)), rfl⟩
  case rest =>
    obtain ⟨rfl, rfl⟩ := hcut
    go_wp2_with fail
    go_ret3
    exact ⟨rfl, E1.old⟩
set_option maxRecDepth 100000 in
set_option maxHeartbeats 4000000 in
theorem pc_b6 {a1 a2 a3 : Option Addr} {n2 n3 c1 c2 c3 : Nat} {s : Pu} {w : World} (h : PMid a1 a2 a3 n2 n3 c1 c2 c3 s w) (h0 : inB s.taken 0 s.tape.length = true) (h1 : inB s.clock 0 1000000000 = true) (h2 : inB s.at_ 0 127 = true) (h3 : inB s.phase 0 4 = true) (h4 : inB s.done 0 s.clock = true) (h5 : inB s.why 0 4 = true) (g : s.product < -140737488355328) :
    Calls Try.prog 45 #[psv a1 a2 a3 128 c1 n2 c2 n3 c3 s] w fun e w' => e = .returned (v3 (5, 0, 7)) ∧ Ext w w' := by
  obtain ⟨hc, rfl, rfl, b2, b3⟩ := h
  have k0 := fun W => pout_any s.taken 0 s.tape.length W
  rw [h0] at k0
  have k1 := fun W => pout_any s.clock 0 1000000000 W
  rw [h1] at k1
  have k2 := fun W => pout_any s.at_ 0 127 W
  rw [h2] at k2
  have k3 := fun W => pout_any s.phase 0 4 W
  rw [h3] at k3
  have k4 := fun W => pout_any s.done 0 s.clock W
  rw [h4] at k4
  have k5 := fun W => pout_any s.why 0 4 W
  rw [h5] at k5
  clear h0 h1 h2 h3 h4 h5
  go_enter Try.func45, Try.ntmps45
  go_wp2_with fail
  refine (hc _ (by repeat (first | with_reducible exact Ext.refl _ | with_reducible refine Ext.alloc ?_ _ | with_reducible refine Below.drew ?_))).mono ?_
  rintro e w1 ⟨rfl, E1⟩
  have q0 := box_at (v := .slice a1 128 c1) E1 0 rfl
  have q1 := box_at (v := .slice a2 s.tape.length c2) E1 1 rfl
  have q2 := box_at (v := .int .i64 s.taken) E1 2 rfl
  have q3 := box_at (v := .slice a3 s.printed.length c3) E1 3 rfl
  have q4 := box_at (v := .int .i64 s.clock) E1 4 rfl
  have q5 := box_at (v := .int .i64 s.at_) E1 5 rfl
  have q6 := box_at (v := .int .i64 s.phase) E1 6 rfl
  have q7 := box_at (v := .int .i64 s.order) E1 7 rfl
  have q8 := box_at (v := .int .i64 s.operand) E1 8 rfl
  have q9 := box_at (v := .int .i64 s.other) E1 9 rfl
  have q10 := box_at (v := .int .i64 s.product) E1 10 rfl
  have q11 := box_at (v := .int .i64 s.count) E1 11 rfl
  have q12 := box_at (v := .int .i64 s.done) E1 12 rfl
  have q13 := box_at (v := .int .i64 s.why) E1 13 rfl
  go_wp2_with fail
  refine (k0 _).mono ?_
  rintro e w2 ⟨rfl, rfl⟩
  go_wp2_with fail
  refine (k1 _).mono ?_
  rintro e w2 ⟨rfl, rfl⟩
  go_wp2_with fail
  refine (k2 _).mono ?_
  rintro e w2 ⟨rfl, rfl⟩
  go_wp2_with fail
  refine (k3 _).mono ?_
  rintro e w2 ⟨rfl, rfl⟩
  go_wp2_with fail
  refine (k4 _).mono ?_
  rintro e w2 ⟨rfl, rfl⟩
  go_wp2_with fail
  refine (k5 _).mono ?_
  rintro e w2 ⟨rfl, rfl⟩
  clear k0 k1 k2 k3 k4 k5
  go_upto_region 7 with fail
  go_cut [57] (fun s57 wx => s57 = .bool true ∧ wx = w1)
  case first =>
    go_wp2_with (go_at_call 64; refine (pout_dec _ _ _ _).mono ?_; rintro e w' ⟨rfl, rfl⟩)
    all_goals
      go_meet
      exact ⟨congrArg Value.bool (by first | rfl | (simp only [Bool.or_eq_true, decide_eq_true_eq]; omega)), rfl⟩
  case rest =>
    obtain ⟨rfl, rfl⟩ := hcut
    go_wp2_with fail
    go_ret3
    exact ⟨rfl, E1.old⟩
end Go.Proofs.Ytjfggepgjpdebaa
