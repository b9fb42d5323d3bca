import Derived.Outline
import Derived.Test.YtjfggepgjpdebaaML0
set_option linter.unusedVariables false
set_option linter.unusedSimpArgs false
/- Contract: PulseKnown returns true. -/
namespace Go.Proofs.Ytjfggepgjpdebaa
open Go.RowKit Go.Q
theorem kn_t3 : (minorsP 3 sM).store.length = 128 ∧ (minorsP 3 sM).phase = 3 ∧ (minorsP 3 sM).count = 12 := by decide +kernel
theorem kn_t4 : (minorsP 4 sM).store.length = 128 ∧ (minorsP 4 sM).phase = 3 ∧ (minorsP 4 sM).product = 0 ∧ (minorsP 4 sM).count = 11 := by decide +kernel
theorem kn_t15 : (minorsP 15 sM).store.length = 128 ∧ (minorsP 15 sM).clock = 15 ∧ (minorsP 15 sM).phase = 4 ∧ (minorsP 15 sM).count = 0 := by decide +kernel
theorem kn_u0 : untilE sA = (1, 0) := by
  have h2 : sA.why = 0 := by decide +kernel
  have h3 : untilP sA = 1 := by decide +kernel
  unfold untilE
  rw [if_neg (by rw [aw_checkA]; decide), if_neg (by rw [h2]; decide), h3]; rfl
theorem kn_u6 : untilE (minorsP 6 sA) = (3, 0) := by
  have h2 : (minorsP 6 sA).why = 0 := by decide +kernel
  have h3 : untilP (minorsP 6 sA) = 3 := by decide +kernel
  unfold untilE
  rw [if_neg (by rw [checkP_valid (minorsP_valid 6 val_A)]; decide), if_neg (by rw [h2]; decide), h3]; rfl
/-- Minors of the product -/
def KnM3 (w : World) (e : Ending) (w' : World) : Prop :=
  ∃ b off c1 a2 n2 c2 a3 n3 c3 x2 x4 x5 x7 x8 x9 x10 x12 x13, e = .returned (.tuple #[.agg #[.slice (some ⟨b, off, none⟩) 128 c1, .slice a2 n2 c2, .int .i64 x2, .slice a3 n3 c3, .int .i64 x4, .int .i64 x5, .int .i64 3, .int .i64 x7, .int .i64 x8, .int .i64 x9, .int .i64 x10, .int .i64 12, .int .i64 x12, .int .i64 x13], .int .i64 0]) ∧ PuAt w' (.agg #[.slice (some ⟨b, off, none⟩) 128 c1, .slice a2 n2 c2, .int .i64 x2, .slice a3 n3 c3, .int .i64 x4, .int .i64 x5, .int .i64 3, .int .i64 x7, .int .i64 x8, .int .i64 x9, .int .i64 x10, .int .i64 12, .int .i64 x12, .int .i64 x13]) (minorsP 3 sM) ∧ Ext w w'
theorem knM3_any (v : Value) (w : World) (h : PuAt w v sM) : Calls Try.prog 25 #[v, .int .i64 3] w (KnM3 w) := by
  obtain ⟨f_store, f_phase, f_count⟩ := kn_t3
  have hm := minors_any v sM 3 w h bd_M
  have he : minorsE sM 3 = (minorsP 3 sM, 0) := minorsE_ok aw_checkM (n := 3) (by decide)
  rw [he] at hm
  clear he
  refine hm.mono ?_
  rintro e w' ⟨v', rfl, ⟨a1, a2, a3, c1, c2, c3, rfl, I1, I2, I3⟩, hE⟩
  dsimp only at I1 I2 I3 ⊢
  have hP : PuAt w' (psv a1 a2 a3 (minorsP 3 sM).store.length c1 (minorsP 3 sM).tape.length c2 (minorsP 3 sM).printed.length c3 (minorsP 3 sM)) (minorsP 3 sM) := ⟨a1, a2, a3, c1, c2, c3, rfl, I1, I2, I3⟩
  obtain ⟨t, ht⟩ : ∃ t, t = minorsP 3 sM := ⟨_, rfl⟩
  rw [← ht] at hP I1 I2 I3 f_store f_phase f_count ⊢
  rcases I1 with e | ⟨b, off, rfl, hb, hc⟩
  · rw [e] at f_store; cases f_store
  refine ⟨b, off, c1, a2, t.tape.length, c2, a3, t.printed.length, c3, t.taken, t.clock, t.at_, t.order, t.operand, t.other, t.product, t.done, t.why, ?_, ?_, hE⟩
  · unfold psv; rw [f_store, f_phase, f_count]
  · unfold psv at hP; rw [f_store, f_phase, f_count] at hP; rw [← ht]; exact hP
/-- Minors of the product -/
def KnM4 (w : World) (e : Ending) (w' : World) : Prop :=
  ∃ b off c1 a2 n2 c2 a3 n3 c3 x2 x4 x5 x7 x8 x9 x12 x13, e = .returned (.tuple #[.agg #[.slice (some ⟨b, off, none⟩) 128 c1, .slice a2 n2 c2, .int .i64 x2, .slice a3 n3 c3, .int .i64 x4, .int .i64 x5, .int .i64 3, .int .i64 x7, .int .i64 x8, .int .i64 x9, .int .i64 0, .int .i64 11, .int .i64 x12, .int .i64 x13], .int .i64 0]) ∧ PuAt w' (.agg #[.slice (some ⟨b, off, none⟩) 128 c1, .slice a2 n2 c2, .int .i64 x2, .slice a3 n3 c3, .int .i64 x4, .int .i64 x5, .int .i64 3, .int .i64 x7, .int .i64 x8, .int .i64 x9, .int .i64 0, .int .i64 11, .int .i64 x12, .int .i64 x13]) (minorsP 4 sM) ∧ Ext w w'
theorem knM4_any (v : Value) (w : World) (h : PuAt w v sM) : Calls Try.prog 25 #[v, .int .i64 4] w (KnM4 w) := by
  obtain ⟨f_store, f_phase, f_product, f_count⟩ := kn_t4
  have hm := minors_any v sM 4 w h bd_M
  have he : minorsE sM 4 = (minorsP 4 sM, 0) := minorsE_ok aw_checkM (n := 4) (by decide)
  rw [he] at hm
  clear he
  refine hm.mono ?_
  rintro e w' ⟨v', rfl, ⟨a1, a2, a3, c1, c2, c3, rfl, I1, I2, I3⟩, hE⟩
  dsimp only at I1 I2 I3 ⊢
  have hP : PuAt w' (psv a1 a2 a3 (minorsP 4 sM).store.length c1 (minorsP 4 sM).tape.length c2 (minorsP 4 sM).printed.length c3 (minorsP 4 sM)) (minorsP 4 sM) := ⟨a1, a2, a3, c1, c2, c3, rfl, I1, I2, I3⟩
  obtain ⟨t, ht⟩ : ∃ t, t = minorsP 4 sM := ⟨_, rfl⟩
  rw [← ht] at hP I1 I2 I3 f_store f_phase f_product f_count ⊢
  rcases I1 with e | ⟨b, off, rfl, hb, hc⟩
  · rw [e] at f_store; cases f_store
  refine ⟨b, off, c1, a2, t.tape.length, c2, a3, t.printed.length, c3, t.taken, t.clock, t.at_, t.order, t.operand, t.other, t.done, t.why, ?_, ?_, hE⟩
  · unfold psv; rw [f_store, f_phase, f_product, f_count]
  · unfold psv at hP; rw [f_store, f_phase, f_product, f_count] at hP; rw [← ht]; exact hP
/-- Minors of the product -/
def KnM15 (w : World) (e : Ending) (w' : World) : Prop :=
  ∃ b off c1 a2 n2 c2 a3 n3 c3 x2 x5 x7 x8 x9 x10 x12 x13, e = .returned (.tuple #[.agg #[.slice (some ⟨b, off, none⟩) 128 c1, .slice a2 n2 c2, .int .i64 x2, .slice a3 n3 c3, .int .i64 15, .int .i64 x5, .int .i64 4, .int .i64 x7, .int .i64 x8, .int .i64 x9, .int .i64 x10, .int .i64 0, .int .i64 x12, .int .i64 x13], .int .i64 0]) ∧ PuAt w' (.agg #[.slice (some ⟨b, off, none⟩) 128 c1, .slice a2 n2 c2, .int .i64 x2, .slice a3 n3 c3, .int .i64 15, .int .i64 x5, .int .i64 4, .int .i64 x7, .int .i64 x8, .int .i64 x9, .int .i64 x10, .int .i64 0, .int .i64 x12, .int .i64 x13]) (minorsP 15 sM) ∧ Ext w w'
theorem knM15_any (v : Value) (w : World) (h : PuAt w v sM) : Calls Try.prog 25 #[v, .int .i64 15] w (KnM15 w) := by
  obtain ⟨f_store, f_clock, f_phase, f_count⟩ := kn_t15
  have hm := minors_any v sM 15 w h bd_M
  have he : minorsE sM 15 = (minorsP 15 sM, 0) := minorsE_ok aw_checkM (n := 15) (by decide)
  rw [he] at hm
  clear he
  refine hm.mono ?_
  rintro e w' ⟨v', rfl, ⟨a1, a2, a3, c1, c2, c3, rfl, I1, I2, I3⟩, hE⟩
  dsimp only at I1 I2 I3 ⊢
  have hP : PuAt w' (psv a1 a2 a3 (minorsP 15 sM).store.length c1 (minorsP 15 sM).tape.length c2 (minorsP 15 sM).printed.length c3 (minorsP 15 sM)) (minorsP 15 sM) := ⟨a1, a2, a3, c1, c2, c3, rfl, I1, I2, I3⟩
  obtain ⟨t, ht⟩ : ∃ t, t = minorsP 15 sM := ⟨_, rfl⟩
  rw [← ht] at hP I1 I2 I3 f_store f_clock f_phase f_count ⊢
  rcases I1 with e | ⟨b, off, rfl, hb, hc⟩
  · rw [e] at f_store; cases f_store
  refine ⟨b, off, c1, a2, t.tape.length, c2, a3, t.printed.length, c3, t.taken, t.at_, t.order, t.operand, t.other, t.product, t.done, t.why, ?_, ?_, hE⟩
  · unfold psv; rw [f_store, f_clock, f_phase, f_count]
  · unfold psv at hP; rw [f_store, f_clock, f_phase, f_count] at hP; rw [← ht]; exact hP
theorem knU0_any (v : Value) (w : World) (h : PuAt w v sA) : Calls Try.prog 28 #[v] w fun e w' => e = .returned (.tuple #[.int .i64 1, .int .i64 0]) ∧ Ext w w' := by
  have hu := until_any v sA w h bd_A
  rw [kn_u0] at hu
  exact hu
theorem knU6_any (v : Value) (w : World) (h : PuAt w v (minorsP 6 sA)) : Calls Try.prog 28 #[v] w fun e w' => e = .returned (.tuple #[.int .i64 3, .int .i64 0]) ∧ Ext w w' := by
  have hu := until_any v (minorsP 6 sA) w h (validP_bd (minorsP_valid 6 val_A))
  rw [kn_u6] at hu
  exact hu
set_option maxRecDepth 100000 in
set_option maxHeartbeats 8000000 in
theorem known5_law (w : World) : Calls Try.prog 8 #[] w fun e w' => e = .returned (.bool true) ∧ Ext w w' := by
  go_enter Try.func8, Try.ntmps8
  go_wp2_with fail
  refine (program_any _).mono ?_
  rintro e w1 ⟨vp1, rfl, S1, E1⟩
  have Y0_1 : Ext w w1 := E1
  clear E1
  go_wp2_with fail
  refine (begun_any _ _ _ S1 aw_q0 nz_st0).mono ?_
  rintro e w2 ⟨vb1, rfl, P1, E2⟩
  have Y1_2 : Ext w1 w2 := E2
  have Y0_2 : Ext w w2 := Y0_1.comp Y1_2
  clear Y0_1
  clear E2
  go_wp2_with fail
  refine (knU0_any _ _ P1).mono ?_
  rintro e w3 ⟨rfl, E3⟩
  have Y2_3 : Ext w2 w3 := E3
  have Y0_3 : Ext w w3 := Y0_2.comp Y2_3
  have Y1_3 : Ext w1 w3 := Y1_2.comp Y2_3
  clear Y0_2 Y1_2
  clear E3
  go_wp2_with fail
  refine (program_any _).mono ?_
  rintro e w4 ⟨vp2, rfl, S2, E4⟩
  have Y3_4 : Ext w3 w4 := E4
  have Y0_4 : Ext w w4 := Y0_3.comp Y3_4
  have Y1_4 : Ext w1 w4 := Y1_3.comp Y3_4
  have Y2_4 : Ext w2 w4 := Y2_3.comp Y3_4
  clear Y0_3 Y1_3 Y2_3
  clear E4
  go_wp2_with fail
  refine (begun_any _ _ _ S2 aw_q0 nz_st0).mono ?_
  rintro e w5 ⟨vb2, rfl, P2, E5⟩
  have Y4_5 : Ext w4 w5 := E5
  have Y0_5 : Ext w w5 := Y0_4.comp Y4_5
  have Y1_5 : Ext w1 w5 := Y1_4.comp Y4_5
  have Y2_5 : Ext w2 w5 := Y2_4.comp Y4_5
  have Y3_5 : Ext w3 w5 := Y3_4.comp Y4_5
  clear Y0_4 Y1_4 Y2_4 Y3_4
  clear E5
  go_wp2_with fail
  refine (awB_any _ _ P2).mono ?_
  rintro e w6 ⟨Bb, Bo, Bk1, Bd2, Bn2, Bk2, Bd3, Bn3, Bk3, B2, B6, B7, B8, B9, B10, B11, B13, rfl, PB, hbB, cB, E6⟩
  have Y5_6 : Ext w5 w6 := E6
  have Y0_6 : Ext w w6 := Y0_5.comp Y5_6
  have Y1_6 : Ext w1 w6 := Y1_5.comp Y5_6
  have Y2_6 : Ext w2 w6 := Y2_5.comp Y5_6
  have Y3_6 : Ext w3 w6 := Y3_5.comp Y5_6
  have Y4_6 : Ext w4 w6 := Y4_5.comp Y5_6
  clear Y0_5 Y1_5 Y2_5 Y3_5 Y4_5
  clear E6
  go_wp2_with fail
  refine (knU6_any _ _ (PB.ext ((Ext.refl w6).alloc _))).mono ?_
  rintro e w7 ⟨rfl, E7⟩
  have Y6_7 : Ext w6 w7 := E7.old
  have Y0_7 : Ext w w7 := Y0_6.comp Y6_7
  have Y1_7 : Ext w1 w7 := Y1_6.comp Y6_7
  have Y2_7 : Ext w2 w7 := Y2_6.comp Y6_7
  have Y3_7 : Ext w3 w7 := Y3_6.comp Y6_7
  have Y4_7 : Ext w4 w7 := Y4_6.comp Y6_7
  have Y5_7 : Ext w5 w7 := Y5_6.comp Y6_7
  have Bsix_7 := Blk.of E7
  clear Y0_6 Y1_6 Y2_6 Y3_6 Y4_6 Y5_6
  clear E7
  clear Bsix_7
  go_wp2_with fail
  refine (product5_any _).mono ?_
  rintro e w8 ⟨vq3, rfl, T3, E8⟩
  have Y7_8 : Ext w7 w8 := E8
  have Y0_8 : Ext w w8 := Y0_7.comp Y7_8
  have Y1_8 : Ext w1 w8 := Y1_7.comp Y7_8
  have Y2_8 : Ext w2 w8 := Y2_7.comp Y7_8
  have Y3_8 : Ext w3 w8 := Y3_7.comp Y7_8
  have Y4_8 : Ext w4 w8 := Y4_7.comp Y7_8
  have Y5_8 : Ext w5 w8 := Y5_7.comp Y7_8
  have Y6_8 : Ext w6 w8 := Y6_7.comp Y7_8
  clear Y0_7 Y1_7 Y2_7 Y3_7 Y4_7 Y5_7 Y6_7
  clear E8
  go_wp2_with fail
  refine (begun_any _ _ _ T3 aw_q1 nz_pr0).mono ?_
  rintro e w9 ⟨vr3, rfl, U3, E9⟩
  have Y8_9 : Ext w8 w9 := E9
  have Y0_9 : Ext w w9 := Y0_8.comp Y8_9
  have Y1_9 : Ext w1 w9 := Y1_8.comp Y8_9
  have Y2_9 : Ext w2 w9 := Y2_8.comp Y8_9
  have Y3_9 : Ext w3 w9 := Y3_8.comp Y8_9
  have Y4_9 : Ext w4 w9 := Y4_8.comp Y8_9
  have Y5_9 : Ext w5 w9 := Y5_8.comp Y8_9
  have Y6_9 : Ext w6 w9 := Y6_8.comp Y8_9
  have Y7_9 : Ext w7 w9 := Y7_8.comp Y8_9
  clear Y0_8 Y1_8 Y2_8 Y3_8 Y4_8 Y5_8 Y6_8 Y7_8
  clear E9
  go_wp2_with fail
  refine (knM3_any _ _ U3).mono ?_
  rintro e w10 ⟨M3b, M3o, M3k1, M3d2, M3n2, M3k2, M3d3, M3n3, M3k3, M32, M34, M35, M37, M38, M39, M310, M312, M313, rfl, PM3, E10⟩
  have Y9_10 : Ext w9 w10 := E10
  have Y0_10 : Ext w w10 := Y0_9.comp Y9_10
  have Y1_10 : Ext w1 w10 := Y1_9.comp Y9_10
  have Y2_10 : Ext w2 w10 := Y2_9.comp Y9_10
  have Y3_10 : Ext w3 w10 := Y3_9.comp Y9_10
  have Y4_10 : Ext w4 w10 := Y4_9.comp Y9_10
  have Y5_10 : Ext w5 w10 := Y5_9.comp Y9_10
  have Y6_10 : Ext w6 w10 := Y6_9.comp Y9_10
  have Y7_10 : Ext w7 w10 := Y7_9.comp Y9_10
  have Y8_10 : Ext w8 w10 := Y8_9.comp Y9_10
  clear Y0_9 Y1_9 Y2_9 Y3_9 Y4_9 Y5_9 Y6_9 Y7_9 Y8_9
  clear E10
  go_wp2_with fail
  refine (product5_any _).mono ?_
  rintro e w11 ⟨vq4, rfl, T4, E11⟩
  have Y10_11 : Ext w10 w11 := E11.old
  have Y0_11 : Ext w w11 := Y0_10.comp Y10_11
  have Y1_11 : Ext w1 w11 := Y1_10.comp Y10_11
  have Y2_11 : Ext w2 w11 := Y2_10.comp Y10_11
  have Y3_11 : Ext w3 w11 := Y3_10.comp Y10_11
  have Y4_11 : Ext w4 w11 := Y4_10.comp Y10_11
  have Y5_11 : Ext w5 w11 := Y5_10.comp Y10_11
  have Y6_11 : Ext w6 w11 := Y6_10.comp Y10_11
  have Y7_11 : Ext w7 w11 := Y7_10.comp Y10_11
  have Y8_11 : Ext w8 w11 := Y8_10.comp Y10_11
  have Y9_11 : Ext w9 w11 := Y9_10.comp Y10_11
  have BM3_11 := Blk.of E11
  clear Y0_10 Y1_10 Y2_10 Y3_10 Y4_10 Y5_10 Y6_10 Y7_10 Y8_10 Y9_10
  clear E11
  go_wp2_with fail
  refine (begun_any _ _ _ T4 aw_q1 nz_pr0).mono ?_
  rintro e w12 ⟨vr4, rfl, U4, E12⟩
  have Y11_12 : Ext w11 w12 := E12
  have Y0_12 : Ext w w12 := Y0_11.comp Y11_12
  have Y1_12 : Ext w1 w12 := Y1_11.comp Y11_12
  have Y2_12 : Ext w2 w12 := Y2_11.comp Y11_12
  have Y3_12 : Ext w3 w12 := Y3_11.comp Y11_12
  have Y4_12 : Ext w4 w12 := Y4_11.comp Y11_12
  have Y5_12 : Ext w5 w12 := Y5_11.comp Y11_12
  have Y6_12 : Ext w6 w12 := Y6_11.comp Y11_12
  have Y7_12 : Ext w7 w12 := Y7_11.comp Y11_12
  have Y8_12 : Ext w8 w12 := Y8_11.comp Y11_12
  have Y9_12 : Ext w9 w12 := Y9_11.comp Y11_12
  have Y10_12 : Ext w10 w12 := Y10_11.comp Y11_12
  have BM3_12 := Blk.ex BM3_11 E12
  clear BM3_11 Y0_11 Y1_11 Y2_11 Y3_11 Y4_11 Y5_11 Y6_11 Y7_11 Y8_11 Y9_11 Y10_11
  clear E12
  go_wp2_with fail
  refine (knM4_any _ _ U4).mono ?_
  rintro e w13 ⟨M4b, M4o, M4k1, M4d2, M4n2, M4k2, M4d3, M4n3, M4k3, M42, M44, M45, M47, M48, M49, M412, M413, rfl, PM4, E13⟩
  have Y12_13 : Ext w12 w13 := E13
  have Y0_13 : Ext w w13 := Y0_12.comp Y12_13
  have Y1_13 : Ext w1 w13 := Y1_12.comp Y12_13
  have Y2_13 : Ext w2 w13 := Y2_12.comp Y12_13
  have Y3_13 : Ext w3 w13 := Y3_12.comp Y12_13
  have Y4_13 : Ext w4 w13 := Y4_12.comp Y12_13
  have Y5_13 : Ext w5 w13 := Y5_12.comp Y12_13
  have Y6_13 : Ext w6 w13 := Y6_12.comp Y12_13
  have Y7_13 : Ext w7 w13 := Y7_12.comp Y12_13
  have Y8_13 : Ext w8 w13 := Y8_12.comp Y12_13
  have Y9_13 : Ext w9 w13 := Y9_12.comp Y12_13
  have Y10_13 : Ext w10 w13 := Y10_12.comp Y12_13
  have Y11_13 : Ext w11 w13 := Y11_12.comp Y12_13
  have BM3_13 := Blk.ex BM3_12 E13
  clear BM3_12 Y0_12 Y1_12 Y2_12 Y3_12 Y4_12 Y5_12 Y6_12 Y7_12 Y8_12 Y9_12 Y10_12 Y11_12
  clear E13
  go_wp2_with fail
  refine (product5_any _).mono ?_
  rintro e w14 ⟨vq15, rfl, T15, E14⟩
  have Y13_14 : Ext w13 w14 := E14.old
  have Y0_14 : Ext w w14 := Y0_13.comp Y13_14
  have Y1_14 : Ext w1 w14 := Y1_13.comp Y13_14
  have Y2_14 : Ext w2 w14 := Y2_13.comp Y13_14
  have Y3_14 : Ext w3 w14 := Y3_13.comp Y13_14
  have Y4_14 : Ext w4 w14 := Y4_13.comp Y13_14
  have Y5_14 : Ext w5 w14 := Y5_13.comp Y13_14
  have Y6_14 : Ext w6 w14 := Y6_13.comp Y13_14
  have Y7_14 : Ext w7 w14 := Y7_13.comp Y13_14
  have Y8_14 : Ext w8 w14 := Y8_13.comp Y13_14
  have Y9_14 : Ext w9 w14 := Y9_13.comp Y13_14
  have Y10_14 : Ext w10 w14 := Y10_13.comp Y13_14
  have Y11_14 : Ext w11 w14 := Y11_13.comp Y13_14
  have Y12_14 : Ext w12 w14 := Y12_13.comp Y13_14
  have BM3_14 := Blk.ex (Blk.al BM3_13 (.cells #[.slice (some ⟨M4b, M4o, none⟩) 128 M4k1, .slice M4d2 M4n2 M4k2, .int .i64 M42, .slice M4d3 M4n3 M4k3, .int .i64 M44, .int .i64 M45, .int .i64 3, .int .i64 M47, .int .i64 M48, .int .i64 M49, .int .i64 0, .int .i64 11, .int .i64 M412, .int .i64 M413] 41)) E14
  have BM4_14 := Blk.of E14
  clear BM3_13 Y0_13 Y1_13 Y2_13 Y3_13 Y4_13 Y5_13 Y6_13 Y7_13 Y8_13 Y9_13 Y10_13 Y11_13 Y12_13
  clear E14
  go_wp2_with fail
  refine (begun_any _ _ _ T15 aw_q1 nz_pr0).mono ?_
  rintro e w15 ⟨vr15, rfl, U15, E15⟩
  have Y14_15 : Ext w14 w15 := E15
  have Y0_15 : Ext w w15 := Y0_14.comp Y14_15
  have Y1_15 : Ext w1 w15 := Y1_14.comp Y14_15
  have Y2_15 : Ext w2 w15 := Y2_14.comp Y14_15
  have Y3_15 : Ext w3 w15 := Y3_14.comp Y14_15
  have Y4_15 : Ext w4 w15 := Y4_14.comp Y14_15
  have Y5_15 : Ext w5 w15 := Y5_14.comp Y14_15
  have Y6_15 : Ext w6 w15 := Y6_14.comp Y14_15
  have Y7_15 : Ext w7 w15 := Y7_14.comp Y14_15
  have Y8_15 : Ext w8 w15 := Y8_14.comp Y14_15
  have Y9_15 : Ext w9 w15 := Y9_14.comp Y14_15
  have Y10_15 : Ext w10 w15 := Y10_14.comp Y14_15
  have Y11_15 : Ext w11 w15 := Y11_14.comp Y14_15
  have Y12_15 : Ext w12 w15 := Y12_14.comp Y14_15
  have Y13_15 : Ext w13 w15 := Y13_14.comp Y14_15
  have BM3_15 := Blk.ex BM3_14 E15
  have BM4_15 := Blk.ex BM4_14 E15
  clear BM3_14 BM4_14 Y0_14 Y1_14 Y2_14 Y3_14 Y4_14 Y5_14 Y6_14 Y7_14 Y8_14 Y9_14 Y10_14 Y11_14 Y12_14 Y13_14
  clear E15
  go_wp2_with fail
  refine (knM15_any _ _ U15).mono ?_
  rintro e w16 ⟨M15b, M15o, M15k1, M15d2, M15n2, M15k2, M15d3, M15n3, M15k3, M152, M155, M157, M158, M159, M1510, M1512, M1513, rfl, PM15, E16⟩
  have Y15_16 : Ext w15 w16 := E16
  have Y0_16 : Ext w w16 := Y0_15.comp Y15_16
  have Y1_16 : Ext w1 w16 := Y1_15.comp Y15_16
  have Y2_16 : Ext w2 w16 := Y2_15.comp Y15_16
  have Y3_16 : Ext w3 w16 := Y3_15.comp Y15_16
  have Y4_16 : Ext w4 w16 := Y4_15.comp Y15_16
  have Y5_16 : Ext w5 w16 := Y5_15.comp Y15_16
  have Y6_16 : Ext w6 w16 := Y6_15.comp Y15_16
  have Y7_16 : Ext w7 w16 := Y7_15.comp Y15_16
  have Y8_16 : Ext w8 w16 := Y8_15.comp Y15_16
  have Y9_16 : Ext w9 w16 := Y9_15.comp Y15_16
  have Y10_16 : Ext w10 w16 := Y10_15.comp Y15_16
  have Y11_16 : Ext w11 w16 := Y11_15.comp Y15_16
  have Y12_16 : Ext w12 w16 := Y12_15.comp Y15_16
  have Y13_16 : Ext w13 w16 := Y13_15.comp Y15_16
  have Y14_16 : Ext w14 w16 := Y14_15.comp Y15_16
  have BM3_16 := Blk.ex BM3_15 E16
  have BM4_16 := Blk.ex BM4_15 E16
  clear BM3_15 BM4_15 Y0_15 Y1_15 Y2_15 Y3_15 Y4_15 Y5_15 Y6_15 Y7_15 Y8_15 Y9_15 Y10_15 Y11_15 Y12_15 Y13_15 Y14_15
  clear E16
  have q16M34 := fun ob => Blk.c (Blk.al BM3_16 ob) 4 (v := .int .i64 M34) rfl
  have q16M36 := fun ob => Blk.c (Blk.al BM3_16 ob) 6 (v := .int .i64 3) rfl
  have q16M310 := fun ob => Blk.c (Blk.al BM3_16 ob) 10 (v := .int .i64 M310) rfl
  have q16M311 := fun ob => Blk.c (Blk.al BM3_16 ob) 11 (v := .int .i64 12) rfl
  have q16M44 := fun ob => Blk.c (Blk.al BM4_16 ob) 4 (v := .int .i64 M44) rfl
  have q16M46 := fun ob => Blk.c (Blk.al BM4_16 ob) 6 (v := .int .i64 3) rfl
  have q16M410 := fun ob => Blk.c (Blk.al BM4_16 ob) 10 (v := .int .i64 0) rfl
  have q16M411 := fun ob => Blk.c (Blk.al BM4_16 ob) 11 (v := .int .i64 11) rfl
  go_wp2_with (go_at_call 30; refine (awake5_any _).mono ?_; rintro e w17 ⟨rfl, E17⟩)
  clear q16M34 q16M36 q16M310 q16M311 q16M44 q16M46 q16M410 q16M411
  have Y16_17 : Ext w16 w17 := E17.old
  have Y0_17 : Ext w w17 := Y0_16.comp Y16_17
  have Y1_17 : Ext w1 w17 := Y1_16.comp Y16_17
  have Y2_17 : Ext w2 w17 := Y2_16.comp Y16_17
  have Y3_17 : Ext w3 w17 := Y3_16.comp Y16_17
  have Y4_17 : Ext w4 w17 := Y4_16.comp Y16_17
  have Y5_17 : Ext w5 w17 := Y5_16.comp Y16_17
  have Y6_17 : Ext w6 w17 := Y6_16.comp Y16_17
  have Y7_17 : Ext w7 w17 := Y7_16.comp Y16_17
  have Y8_17 : Ext w8 w17 := Y8_16.comp Y16_17
  have Y9_17 : Ext w9 w17 := Y9_16.comp Y16_17
  have Y10_17 : Ext w10 w17 := Y10_16.comp Y16_17
  have Y11_17 : Ext w11 w17 := Y11_16.comp Y16_17
  have Y12_17 : Ext w12 w17 := Y12_16.comp Y16_17
  have Y13_17 : Ext w13 w17 := Y13_16.comp Y16_17
  have Y14_17 : Ext w14 w17 := Y14_16.comp Y16_17
  have Y15_17 : Ext w15 w17 := Y15_16.comp Y16_17
  have BM3_17 := Blk.ex (Blk.al BM3_16 (.cells #[.slice (some ⟨M15b, M15o, none⟩) 128 M15k1, .slice M15d2 M15n2 M15k2, .int .i64 M152, .slice M15d3 M15n3 M15k3, .int .i64 15, .int .i64 M155, .int .i64 4, .int .i64 M157, .int .i64 M158, .int .i64 M159, .int .i64 M1510, .int .i64 0, .int .i64 M1512, .int .i64 M1513] 41)) E17
  have BM4_17 := Blk.ex (Blk.al BM4_16 (.cells #[.slice (some ⟨M15b, M15o, none⟩) 128 M15k1, .slice M15d2 M15n2 M15k2, .int .i64 M152, .slice M15d3 M15n3 M15k3, .int .i64 15, .int .i64 M155, .int .i64 4, .int .i64 M157, .int .i64 M158, .int .i64 M159, .int .i64 M1510, .int .i64 0, .int .i64 M1512, .int .i64 M1513] 41)) E17
  have BM15_17 := Blk.of E17
  clear BM3_16 BM4_16 Y0_16 Y1_16 Y2_16 Y3_16 Y4_16 Y5_16 Y6_16 Y7_16 Y8_16 Y9_16 Y10_16 Y11_16 Y12_16 Y13_16 Y14_16 Y15_16
  clear E17
  go_ret
  exact ⟨rfl, Y0_17⟩
end Go.Proofs.Ytjfggepgjpdebaa
