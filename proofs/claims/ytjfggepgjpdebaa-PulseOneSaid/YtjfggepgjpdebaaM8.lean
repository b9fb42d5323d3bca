import Derived.Test.YtjfggepgjpdebaaM4
set_option linter.unusedVariables false
set_option linter.unusedSimpArgs false
/- pulse.Check: the words, the product, the count. -/
namespace Go.Proofs.Ytjfggepgjpdebaa
open Go.RowKit Go.Q
set_option maxRecDepth 100000 in
set_option maxHeartbeats 4000000 in
theorem pc_c {a1 a2 a3 : Option Addr} {n2 n3 c1 c2 c3 : Nat} {s : Pu} {w : World} (h : PMid a1 a2 a3 n2 n3 c1 c2 c3 s w) (h0 : inB s.taken 0 s.tape.length = true) (h1 : inB s.clock 0 1000000000 = true) (h2 : inB s.at_ 0 127 = true) (h3 : inB s.phase 0 4 = true) (h4 : inB s.done 0 s.clock = true) (h5 : inB s.why 0 4 = true) (g0 : 0 ≤ s.order ∧ s.order ≤ 16777215) (g1 : 0 ≤ s.operand ∧ s.operand ≤ 16777215) (g2 : 0 ≤ s.other ∧ s.other ≤ 16777215) (g3 : -140737488355328 ≤ s.product ∧ s.product ≤ 140737488355327) (g4 : 0 ≤ s.count ∧ s.count ≤ 12) (gc : cntB s = false) :
    Calls Try.prog 45 #[psv a1 a2 a3 128 c1 n2 c2 n3 c3 s] w fun e w' => e = .returned (v3 (6, 0, 2)) ∧ Ext w w' := by
  obtain ⟨hc, rfl, rfl, b2, b3⟩ := h
  have hph := inB_bd h3
  have htk := inB_bd h0
  have hcb : (s.phase = 3 ↔ 0 < s.count) ↔ cntB s = true := by
    unfold cntB
    by_cases x3 : s.phase = 3 <;> by_cases x0 : 0 < s.count <;> simp [x3, x0]
  rw [gc] at hcb
  have hcc : s.phase = 3 ∧ s.count ≤ 0 ∨ ¬ s.phase = 3 ∧ 0 < s.count := by
    have : ¬ (s.phase = 3 ↔ 0 < s.count) := fun c => by have := hcb.1 c; cases this
    omega
  clear hcb gc
  obtain ⟨u0, v0⟩ := g0
  obtain ⟨u1, v1⟩ := g1
  obtain ⟨u2, v2⟩ := g2
  obtain ⟨u3, v3'⟩ := g3
  obtain ⟨u4, v4⟩ := g4
  have k0 := fun W => pout_any s.taken 0 s.tape.length W
  rw [h0] at k0
  have k1 := fun W => pout_any s.clock 0 1000000000 W
  rw [h1] at k1
  have k2 := fun W => pout_any s.at_ 0 127 W
  rw [h2] at k2
  have k3 := fun W => pout_any s.phase 0 4 W
  rw [h3] at k3
  have k4 := fun W => pout_any s.done 0 s.clock W
  rw [h4] at k4
  have k5 := fun W => pout_any s.why 0 4 W
  rw [h5] at k5
  clear h0 h1 h2 h3 h4 h5
  go_enter Try.func45, Try.ntmps45
  go_wp2_with fail
  refine (hc _ (by repeat (first | with_reducible exact Ext.refl _ | with_reducible refine Ext.alloc ?_ _ | with_reducible refine Below.drew ?_))).mono ?_
  rintro e w1 ⟨rfl, E1⟩
  have q0 := box_at (v := .slice a1 128 c1) E1 0 rfl
  have q1 := box_at (v := .slice a2 s.tape.length c2) E1 1 rfl
  have q2 := box_at (v := .int .i64 s.taken) E1 2 rfl
  have q3 := box_at (v := .slice a3 s.printed.length c3) E1 3 rfl
  have q4 := box_at (v := .int .i64 s.clock) E1 4 rfl
  have q5 := box_at (v := .int .i64 s.at_) E1 5 rfl
  have q6 := box_at (v := .int .i64 s.phase) E1 6 rfl
  have q7 := box_at (v := .int .i64 s.order) E1 7 rfl
  have q8 := box_at (v := .int .i64 s.operand) E1 8 rfl
  have q9 := box_at (v := .int .i64 s.other) E1 9 rfl
  have q10 := box_at (v := .int .i64 s.product) E1 10 rfl
  have q11 := box_at (v := .int .i64 s.count) E1 11 rfl
  have q12 := box_at (v := .int .i64 s.done) E1 12 rfl
  have q13 := box_at (v := .int .i64 s.why) E1 13 rfl
  go_wp2_with fail
  refine (k0 _).mono ?_
  rintro e w2 ⟨rfl, rfl⟩
  go_wp2_with fail
  refine (k1 _).mono ?_
  rintro e w2 ⟨rfl, rfl⟩
  go_wp2_with fail
  refine (k2 _).mono ?_
  rintro e w2 ⟨rfl, rfl⟩
  go_wp2_with fail
  refine (k3 _).mono ?_
  rintro e w2 ⟨rfl, rfl⟩
  go_wp2_with fail
  refine (k4 _).mono ?_
  rintro e w2 ⟨rfl, rfl⟩
  go_wp2_with fail
  refine (k5 _).mono ?_
  rintro e w2 ⟨rfl, rfl⟩
  clear k0 k1 k2 k3 k4 k5
  go_upto_region 7 with fail
  go_cut [57] (fun s57 wx => s57 = .bool false ∧ wx = w1)
  case first =>
    go_wp2_with (go_at_call 64; refine (pout_dec _ _ _ _).mono ?_; rintro e w' ⟨rfl, rfl⟩)
    all_goals
      go_meet
      exact ⟨congrArg Value.bool (by first | rfl | (simp only [Bool.or_eq_false_iff, decide_eq_false_iff_not]; omega)), rfl⟩
  case rest =>
    obtain ⟨rfl, rfl⟩ := hcut
    rcases hcc with ⟨x3, x0⟩ | ⟨x3, x0⟩
    · have b3' : (s.phase == 3) = true := by simpa using x3
      have b0' : decide (0 < s.count) = false := by simpa using x0
      clear x3 x0
      go_wp2_with fail
      go_ret3
      exact ⟨rfl, E1.old⟩
    · have b3' : (s.phase == 3) = false := by simpa using x3
      have b0' : decide (0 < s.count) = true := by simpa using x0
      clear x3 x0
      go_wp2_with fail
      go_ret3
      exact ⟨rfl, E1.old⟩
set_option maxRecDepth 100000 in
set_option maxHeartbeats 4000000 in
theorem pc_f {a1 a2 a3 : Option Addr} {n2 n3 c1 c2 c3 : Nat} {s : Pu} {w : World} (h : PMid a1 a2 a3 n2 n3 c1 c2 c3 s w) (h0 : inB s.taken 0 s.tape.length = true) (h1 : inB s.clock 0 1000000000 = true) (h2 : inB s.at_ 0 127 = true) (h3 : inB s.phase 0 4 = true) (h4 : inB s.done 0 s.clock = true) (h5 : inB s.why 0 4 = true) (g0 : 0 ≤ s.order ∧ s.order ≤ 16777215) (g1 : 0 ≤ s.operand ∧ s.operand ≤ 16777215) (g2 : 0 ≤ s.other ∧ s.other ≤ 16777215) (g3 : -140737488355328 ≤ s.product ∧ s.product ≤ 140737488355327) (g4 : 0 ≤ s.count ∧ s.count ≤ 12) (gc : cntB s = true) (gf : fitsB s = false) (l1 : s.store.length = 128) (i1 : IntsAt w a1 s.store) (i2 : IntsAt w a2 s.tape) (i3 : IntsAt w a3 s.printed) :
    Calls Try.prog 45 #[psv a1 a2 a3 128 c1 n2 c2 n3 c3 s] w fun e w' => e = .returned (v3 (6, 0, 2)) ∧ Ext w w' := by
  obtain ⟨hc, rfl, rfl, b2, b3⟩ := h
  have hph := inB_bd h3
  have htk := inB_bd h0
  have ho := fun W (E : Ext w W) => popen_ok a1 a2 a3 s.tape.length s.printed.length c1 c2 c3 s W l1 rfl rfl b2 b3 (i1.ext E) (i2.ext E) (i3.ext E) g0
  have hf := fun W nb m g1 cc tv pv (A : Ctl W nb m g1 cc tv pv s (ordP s)) => pfits_any W A hph b3 b2 htk.1
  rw [gf] at hf
  clear l1 i1 i2 i3 gf
  have hcb : (s.phase = 3 ↔ 0 < s.count) ↔ cntB s = true := by
    unfold cntB
    by_cases x3 : s.phase = 3 <;> by_cases x0 : 0 < s.count <;> simp [x3, x0]
  rw [gc] at hcb
  have hcc : s.phase = 3 ∧ 0 < s.count ∨ ¬ s.phase = 3 ∧ s.count ≤ 0 := by
    have := hcb.2 rfl
    omega
  clear hcb gc
  obtain ⟨u0, v0⟩ := g0
  obtain ⟨u1, v1⟩ := g1
  obtain ⟨u2, v2⟩ := g2
  obtain ⟨u3, v3'⟩ := g3
  obtain ⟨u4, v4⟩ := g4
  have k0 := fun W => pout_any s.taken 0 s.tape.length W
  rw [h0] at k0
  have k1 := fun W => pout_any s.clock 0 1000000000 W
  rw [h1] at k1
  have k2 := fun W => pout_any s.at_ 0 127 W
  rw [h2] at k2
  have k3 := fun W => pout_any s.phase 0 4 W
  rw [h3] at k3
  have k4 := fun W => pout_any s.done 0 s.clock W
  rw [h4] at k4
  have k5 := fun W => pout_any s.why 0 4 W
  rw [h5] at k5
  clear h0 h1 h2 h3 h4 h5
  go_enter Try.func45, Try.ntmps45
  go_wp2_with fail
  refine (hc _ (by repeat (first | with_reducible exact Ext.refl _ | with_reducible refine Ext.alloc ?_ _ | with_reducible refine Below.drew ?_))).mono ?_
  rintro e w1 ⟨rfl, E1⟩
  have q0 := box_at (v := .slice a1 128 c1) E1 0 rfl
  have q1 := box_at (v := .slice a2 s.tape.length c2) E1 1 rfl
  have q2 := box_at (v := .int .i64 s.taken) E1 2 rfl
  have q3 := box_at (v := .slice a3 s.printed.length c3) E1 3 rfl
  have q4 := box_at (v := .int .i64 s.clock) E1 4 rfl
  have q5 := box_at (v := .int .i64 s.at_) E1 5 rfl
  have q6 := box_at (v := .int .i64 s.phase) E1 6 rfl
  have q7 := box_at (v := .int .i64 s.order) E1 7 rfl
  have q8 := box_at (v := .int .i64 s.operand) E1 8 rfl
  have q9 := box_at (v := .int .i64 s.other) E1 9 rfl
  have q10 := box_at (v := .int .i64 s.product) E1 10 rfl
  have q11 := box_at (v := .int .i64 s.count) E1 11 rfl
  have q12 := box_at (v := .int .i64 s.done) E1 12 rfl
  have q13 := box_at (v := .int .i64 s.why) E1 13 rfl
  go_wp2_with fail
  refine (k0 _).mono ?_
  rintro e w2 ⟨rfl, rfl⟩
  go_wp2_with fail
  refine (k1 _).mono ?_
  rintro e w2 ⟨rfl, rfl⟩
  go_wp2_with fail
  refine (k2 _).mono ?_
  rintro e w2 ⟨rfl, rfl⟩
  go_wp2_with fail
  refine (k3 _).mono ?_
  rintro e w2 ⟨rfl, rfl⟩
  go_wp2_with fail
  refine (k4 _).mono ?_
  rintro e w2 ⟨rfl, rfl⟩
  go_wp2_with fail
  refine (k5 _).mono ?_
  rintro e w2 ⟨rfl, rfl⟩
  clear k0 k1 k2 k3 k4 k5
  go_upto_region 7 with fail
  go_cut [57] (fun s57 wx => s57 = .bool false ∧ wx = w1)
  case first =>
    go_wp2_with (go_at_call 64; refine (pout_dec _ _ _ _).mono ?_; rintro e w' ⟨rfl, rfl⟩)
    all_goals
      go_meet
      exact ⟨congrArg Value.bool (by first | rfl | (simp only [Bool.or_eq_false_iff, decide_eq_false_iff_not]; omega)), rfl⟩
  case rest =>
    obtain ⟨rfl, rfl⟩ := hcut
    rcases hcc with ⟨x3, x0⟩ | ⟨x3, x0⟩
    · have b3' : (s.phase == 3) = true := by simpa using x3
      have b0' : decide (0 < s.count) = true := by simpa using x0
      clear x3 x0
      go_wp2_with fail
      refine (ho _ E1.old).mono ?_
      rintro e w3 ⟨m, gg, cc, tv, pv, rfl, M, E2⟩
      go_wp2_with fail
      refine (hf _ _ _ _ _ _ _ M).mono ?_
      rintro e w4 ⟨rfl, n, rfl⟩
      go_wp2_with fail
      go_ret3
      exact ⟨rfl, below_drewN (E1.old.comp E2) n⟩
    · have b3' : (s.phase == 3) = false := by simpa using x3
      have b0' : decide (0 < s.count) = false := by simpa using x0
      clear x3 x0
      go_wp2_with fail
      refine (ho _ E1.old).mono ?_
      rintro e w3 ⟨m, gg, cc, tv, pv, rfl, M, E2⟩
      go_wp2_with fail
      refine (hf _ _ _ _ _ _ _ M).mono ?_
      rintro e w4 ⟨rfl, n, rfl⟩
      go_wp2_with fail
      go_ret3
      exact ⟨rfl, below_drewN (E1.old.comp E2) n⟩
set_option maxRecDepth 100000 in
set_option maxHeartbeats 4000000 in
theorem pc_g {a1 a2 a3 : Option Addr} {n2 n3 c1 c2 c3 : Nat} {s : Pu} {w : World} (h : PMid a1 a2 a3 n2 n3 c1 c2 c3 s w) (h0 : inB s.taken 0 s.tape.length = true) (h1 : inB s.clock 0 1000000000 = true) (h2 : inB s.at_ 0 127 = true) (h3 : inB s.phase 0 4 = true) (h4 : inB s.done 0 s.clock = true) (h5 : inB s.why 0 4 = true) (g0 : 0 ≤ s.order ∧ s.order ≤ 16777215) (g1 : 0 ≤ s.operand ∧ s.operand ≤ 16777215) (g2 : 0 ≤ s.other ∧ s.other ≤ 16777215) (g3 : -140737488355328 ≤ s.product ∧ s.product ≤ 140737488355327) (g4 : 0 ≤ s.count ∧ s.count ≤ 12) (gc : cntB s = true) (gf : fitsB s = true) (l1 : s.store.length = 128) (i1 : IntsAt w a1 s.store) (i2 : IntsAt w a2 s.tape) (i3 : IntsAt w a3 s.printed) :
    Calls Try.prog 45 #[psv a1 a2 a3 128 c1 n2 c2 n3 c3 s] w fun e w' => e = .returned (v3 (0, 0, 0)) ∧ Ext w w' := by
  obtain ⟨hc, rfl, rfl, b2, b3⟩ := h
  have hph := inB_bd h3
  have htk := inB_bd h0
  have ho := fun W (E : Ext w W) => popen_ok a1 a2 a3 s.tape.length s.printed.length c1 c2 c3 s W l1 rfl rfl b2 b3 (i1.ext E) (i2.ext E) (i3.ext E) g0
  have hf := fun W nb m g1 cc tv pv (A : Ctl W nb m g1 cc tv pv s (ordP s)) => pfits_any W A hph b3 b2 htk.1
  rw [gf] at hf
  clear l1 i1 i2 i3 gf
  have hcb : (s.phase = 3 ↔ 0 < s.count) ↔ cntB s = true := by
    unfold cntB
    by_cases x3 : s.phase = 3 <;> by_cases x0 : 0 < s.count <;> simp [x3, x0]
  rw [gc] at hcb
  have hcc : s.phase = 3 ∧ 0 < s.count ∨ ¬ s.phase = 3 ∧ s.count ≤ 0 := by
    have := hcb.2 rfl
    omega
  clear hcb gc
  obtain ⟨u0, v0⟩ := g0
  obtain ⟨u1, v1⟩ := g1
  obtain ⟨u2, v2⟩ := g2
  obtain ⟨u3, v3'⟩ := g3
  obtain ⟨u4, v4⟩ := g4
  have k0 := fun W => pout_any s.taken 0 s.tape.length W
  rw [h0] at k0
  have k1 := fun W => pout_any s.clock 0 1000000000 W
  rw [h1] at k1
  have k2 := fun W => pout_any s.at_ 0 127 W
  rw [h2] at k2
  have k3 := fun W => pout_any s.phase 0 4 W
  rw [h3] at k3
  have k4 := fun W => pout_any s.done 0 s.clock W
  rw [h4] at k4
  have k5 := fun W => pout_any s.why 0 4 W
  rw [h5] at k5
  clear h0 h1 h2 h3 h4 h5
  go_enter Try.func45, Try.ntmps45
  go_wp2_with fail
  refine (hc _ (by repeat (first | with_reducible exact Ext.refl _ | with_reducible refine Ext.alloc ?_ _ | with_reducible refine Below.drew ?_))).mono ?_
  rintro e w1 ⟨rfl, E1⟩
  have q0 := box_at (v := .slice a1 128 c1) E1 0 rfl
  have q1 := box_at (v := .slice a2 s.tape.length c2) E1 1 rfl
  have q2 := box_at (v := .int .i64 s.taken) E1 2 rfl
  have q3 := box_at (v := .slice a3 s.printed.length c3) E1 3 rfl
  have q4 := box_at (v := .int .i64 s.clock) E1 4 rfl
  have q5 := box_at (v := .int .i64 s.at_) E1 5 rfl
  have q6 := box_at (v := .int .i64 s.phase) E1 6 rfl
  have q7 := box_at (v := .int .i64 s.order) E1 7 rfl
  have q8 := box_at (v := .int .i64 s.operand) E1 8 rfl
  have q9 := box_at (v := .int .i64 s.other) E1 9 rfl
  have q10 := box_at (v := .int .i64 s.product) E1 10 rfl
  have q11 := box_at (v := .int .i64 s.count) E1 11 rfl
  have q12 := box_at (v := .int .i64 s.done) E1 12 rfl
  have q13 := box_at (v := .int .i64 s.why) E1 13 rfl
  go_wp2_with fail
  refine (k0 _).mono ?_
  rintro e w2 ⟨rfl, rfl⟩
  go_wp2_with fail
  refine (k1 _).mono ?_
  rintro e w2 ⟨rfl, rfl⟩
  go_wp2_with fail
  refine (k2 _).mono ?_
  rintro e w2 ⟨rfl, rfl⟩
  go_wp2_with fail
  refine (k3 _).mono ?_
  rintro e w2 ⟨rfl, rfl⟩
  go_wp2_with fail
  refine (k4 _).mono ?_
  rintro e w2 ⟨rfl, rfl⟩
  go_wp2_with fail
  refine (k5 _).mono ?_
  rintro e w2 ⟨rfl, rfl⟩
  clear k0 k1 k2 k3 k4 k5
  go_upto_region 7 with fail
  go_cut [57] (fun s57 wx => s57 = .bool false ∧ wx = w1)
  case first =>
    go_wp2_with (go_at_call 64; refine (pout_dec _ _ _ _).mono ?_; rintro e w' ⟨rfl, rfl⟩)
    all_goals
      go_meet
      exact ⟨congrArg Value.bool (by first | rfl | (simp only [Bool.or_eq_false_iff, decide_eq_false_iff_not]; omega)), rfl⟩
  case rest =>
    obtain ⟨rfl, rfl⟩ := hcut
    rcases hcc with ⟨x3, x0⟩ | ⟨x3, x0⟩
    · have b3' : (s.phase == 3) = true := by simpa using x3
      have b0' : decide (0 < s.count) = true := by simpa using x0
      clear x3 x0
      go_wp2_with fail
      refine (ho _ E1.old).mono ?_
      rintro e w3 ⟨m, gg, cc, tv, pv, rfl, M, E2⟩
      go_wp2_with fail
      refine (hf _ _ _ _ _ _ _ M).mono ?_
      rintro e w4 ⟨rfl, n, rfl⟩
      go_wp2_with fail
      go_ret3
      exact ⟨rfl, below_drewN (E1.old.comp E2) n⟩
    · have b3' : (s.phase == 3) = false := by simpa using x3
      have b0' : decide (0 < s.count) = false := by simpa using x0
      clear x3 x0
      go_wp2_with fail
      refine (ho _ E1.old).mono ?_
      rintro e w3 ⟨m, gg, cc, tv, pv, rfl, M, E2⟩
      go_wp2_with fail
      refine (hf _ _ _ _ _ _ _ M).mono ?_
      rintro e w4 ⟨rfl, n, rfl⟩
      go_wp2_with fail
      go_ret3
      exact ⟨rfl, below_drewN (E1.old.comp E2) n⟩
end Go.Proofs.Ytjfggepgjpdebaa
