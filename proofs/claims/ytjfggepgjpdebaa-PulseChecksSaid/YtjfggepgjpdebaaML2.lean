import Derived.Outline
import Derived.Test.YtjfggepgjpdebaaML0
import Derived.Test.YtjfggepgjpdebaaM26
import Derived.Test.YtjfggepgjpdebaaM39
set_option linter.unusedVariables false
set_option linter.unusedSimpArgs false
/- Contract: PulseChecks returns true. -/
namespace Go.Proofs.Ytjfggepgjpdebaa
open Go.RowKit Go.Q
set_option maxRecDepth 100000 in
set_option maxHeartbeats 8000000 in
theorem checks_law (v u : Value) (s : Pu) (o : St) (w : World) (h : PuAt w v s) (hb : PuBd s) (g : StAt w u o) (gb : StBd o) :
    Calls Try.prog 14 #[v, u] w fun e w' => e = .returned (.bool true) ∧ Ext w w' := by
  have h1 := fun W (E : Ext w W) => pcheck_any v s W (h.ext E) hb
  have h2 := fun W (E : Ext w W) => rcheck5_any v s W (h.ext E) hb
  have h3 := fun W (E : Ext w W) => start_any u o W (g.ext E) gb
  have h4 := fun W (E : Ext w W) => rstart_any u o W (g.ext E) gb
  have h5 := fun W (E : Ext w W) => porder_any v s W (h.ext E) hb
  have h6 := fun W (E : Ext w W) => rorder_any v s W (h.ext E) hb
  have hB := startE_bd o
  have hB2 := orderE_bd s
  generalize checkP s = p at *
  obtain ⟨c0, c1', c2'⟩ := p
  unfold v3 at h1 h2
  dsimp only at h1 h2
  generalize startE o = p2 at *
  obtain ⟨t, er⟩ := p2
  generalize orderE s = p3 at *
  obtain ⟨y, ey⟩ := p3
  have hs := fun W va vb (A : PuAt W va t) (B : PuAt W vb t) => pstates_same va vb t W A B hB
  have hs2 := fun W va vb (A : StAt W va y) (B : StAt W vb y) => states_same va vb y W A B hB2
  have e0 : (c0 != c0) = false := by simp
  have e1 : (c1' != c1') = false := by simp
  have e2 : (c2' != c2') = false := by simp
  have e3 : (er != er) = false := by simp
  have e4 : (ey == ey) = true := by simp
  obtain ⟨a1, a2, a3, c1, c2, c3, rfl, _, _, _⟩ := h
  obtain ⟨b1, b2, b3, d1, d2, d3, rfl, _, _, _⟩ := g
  generalize s.store.length = n1 at *
  generalize s.tape.length = n2 at *
  generalize s.printed.length = n3 at *
  generalize o.store.length = m1 at *
  generalize o.tape.length = m2 at *
  generalize o.printed.length = m3 at *
  clear hb hB gb hB2
  go_enter Try.func14, Try.ntmps14
  go_wp2_with fail
  refine (h1 _ (((Ext.refl w).alloc _).alloc _)).mono ?_
  rintro e w1 ⟨rfl, E1⟩
  have Y0_1 : Ext w w1 := E1.old.old
  have Bs_1 := Blk.of E1.old
  have Bo_1 := Blk.of E1
  rw [World.size_alloc] at Bo_1
  have q1s0 := Blk.c Bs_1 0 (v := .slice a1 n1 c1) rfl
  have q1s1 := Blk.c Bs_1 1 (v := .slice a2 n2 c2) rfl
  have q1s2 := Blk.c Bs_1 2 (v := .int .i64 s.taken) rfl
  have q1s3 := Blk.c Bs_1 3 (v := .slice a3 n3 c3) rfl
  have q1s4 := Blk.c Bs_1 4 (v := .int .i64 s.clock) rfl
  have q1s5 := Blk.c Bs_1 5 (v := .int .i64 s.at_) rfl
  have q1s6 := Blk.c Bs_1 6 (v := .int .i64 s.phase) rfl
  have q1s7 := Blk.c Bs_1 7 (v := .int .i64 s.order) rfl
  have q1s8 := Blk.c Bs_1 8 (v := .int .i64 s.operand) rfl
  have q1s9 := Blk.c Bs_1 9 (v := .int .i64 s.other) rfl
  have q1s10 := Blk.c Bs_1 10 (v := .int .i64 s.product) rfl
  have q1s11 := Blk.c Bs_1 11 (v := .int .i64 s.count) rfl
  have q1s12 := Blk.c Bs_1 12 (v := .int .i64 s.done) rfl
  have q1s13 := Blk.c Bs_1 13 (v := .int .i64 s.why) rfl
  clear E1
  go_wp2_with fail
  refine (h2 _ Y0_1).mono ?_
  rintro e w2 ⟨rfl, E2⟩
  clear q1s0 q1s1 q1s2 q1s3 q1s4 q1s5 q1s6 q1s7 q1s8 q1s9 q1s10 q1s11 q1s12 q1s13
  have Y1_2 : Ext w1 w2 := E2
  have Y0_2 : Ext w w2 := Y0_1.comp Y1_2
  have Bs_2 := Blk.ex Bs_1 E2
  have Bo_2 := Blk.ex Bo_1 E2
  clear Bs_1 Bo_1 Y0_1
  have q2o0 := Blk.c Bo_2 0 (v := .slice b1 m1 d1) rfl
  have q2o1 := Blk.c Bo_2 1 (v := .slice b2 m2 d2) rfl
  have q2o2 := Blk.c Bo_2 2 (v := .int .i64 o.taken) rfl
  have q2o3 := Blk.c Bo_2 3 (v := .slice b3 m3 d3) rfl
  have q2o4 := Blk.c Bo_2 4 (v := .int .i64 o.time) rfl
  have q2o5 := Blk.c Bo_2 5 (v := .int .i64 o.at_) rfl
  have q2o6 := Blk.c Bo_2 6 (v := .int .i64 o.done) rfl
  have q2o7 := Blk.c Bo_2 7 (v := .int .i64 o.why) rfl
  clear E2
  go_wp2_with fail
  refine (h3 _ Y0_2).mono ?_
  rintro e w3 ⟨v1, rfl, A1, E3⟩
  clear q2o0 q2o1 q2o2 q2o3 q2o4 q2o5 q2o6 q2o7
  have Y2_3 : Ext w2 w3 := E3
  have Y0_3 : Ext w w3 := Y0_2.comp Y2_3
  have Y1_3 : Ext w1 w3 := Y1_2.comp Y2_3
  have Bs_3 := Blk.ex Bs_2 E3
  have Bo_3 := Blk.ex Bo_2 E3
  clear Bs_2 Bo_2 Y0_2 Y1_2
  obtain ⟨x1, x2, x3, k1, k2, k3, rfl, _, _, _⟩ := id A1
  have q3o0 := fun ob => Blk.c (Blk.al Bo_3 ob) 0 (v := .slice b1 m1 d1) rfl
  have q3o1 := fun ob => Blk.c (Blk.al Bo_3 ob) 1 (v := .slice b2 m2 d2) rfl
  have q3o2 := fun ob => Blk.c (Blk.al Bo_3 ob) 2 (v := .int .i64 o.taken) rfl
  have q3o3 := fun ob => Blk.c (Blk.al Bo_3 ob) 3 (v := .slice b3 m3 d3) rfl
  have q3o4 := fun ob => Blk.c (Blk.al Bo_3 ob) 4 (v := .int .i64 o.time) rfl
  have q3o5 := fun ob => Blk.c (Blk.al Bo_3 ob) 5 (v := .int .i64 o.at_) rfl
  have q3o6 := fun ob => Blk.c (Blk.al Bo_3 ob) 6 (v := .int .i64 o.done) rfl
  have q3o7 := fun ob => Blk.c (Blk.al Bo_3 ob) 7 (v := .int .i64 o.why) rfl
  clear E3
  go_wp2_with fail
  refine (h4 _ (Y0_3.alloc _)).mono ?_
  rintro e w4 ⟨v2, rfl, A2, E4⟩
  clear q3o0 q3o1 q3o2 q3o3 q3o4 q3o5 q3o6 q3o7
  have Y3_4 : Ext w3 w4 := E4.old
  have Y0_4 : Ext w w4 := Y0_3.comp Y3_4
  have Y1_4 : Ext w1 w4 := Y1_3.comp Y3_4
  have Y2_4 : Ext w2 w4 := Y2_3.comp Y3_4
  have Bs_4 := Blk.ex (Blk.al Bs_3 (.cells #[.slice x1 t.store.length k1, .slice x2 t.tape.length k2, .int .i64 t.taken, .slice x3 t.printed.length k3, .int .i64 t.clock, .int .i64 t.at_, .int .i64 t.phase, .int .i64 t.order, .int .i64 t.operand, .int .i64 t.other, .int .i64 t.product, .int .i64 t.count, .int .i64 t.done, .int .i64 t.why] 41)) E4
  have Bo_4 := Blk.ex (Blk.al Bo_3 (.cells #[.slice x1 t.store.length k1, .slice x2 t.tape.length k2, .int .i64 t.taken, .slice x3 t.printed.length k3, .int .i64 t.clock, .int .i64 t.at_, .int .i64 t.phase, .int .i64 t.order, .int .i64 t.operand, .int .i64 t.other, .int .i64 t.product, .int .i64 t.count, .int .i64 t.done, .int .i64 t.why] 41)) E4
  have BA_4 := Blk.of E4
  clear Bs_3 Bo_3 Y0_3 Y1_3 Y2_3
  obtain ⟨y1, y2, y3, l1, l2, l3, rfl, _, _, _⟩ := id A2
  have q4A0 := fun ob => Blk.c (Blk.al BA_4 ob) 0 (v := .slice x1 t.store.length k1) rfl
  have q4A1 := fun ob => Blk.c (Blk.al BA_4 ob) 1 (v := .slice x2 t.tape.length k2) rfl
  have q4A2 := fun ob => Blk.c (Blk.al BA_4 ob) 2 (v := .int .i64 t.taken) rfl
  have q4A3 := fun ob => Blk.c (Blk.al BA_4 ob) 3 (v := .slice x3 t.printed.length k3) rfl
  have q4A4 := fun ob => Blk.c (Blk.al BA_4 ob) 4 (v := .int .i64 t.clock) rfl
  have q4A5 := fun ob => Blk.c (Blk.al BA_4 ob) 5 (v := .int .i64 t.at_) rfl
  have q4A6 := fun ob => Blk.c (Blk.al BA_4 ob) 6 (v := .int .i64 t.phase) rfl
  have q4A7 := fun ob => Blk.c (Blk.al BA_4 ob) 7 (v := .int .i64 t.order) rfl
  have q4A8 := fun ob => Blk.c (Blk.al BA_4 ob) 8 (v := .int .i64 t.operand) rfl
  have q4A9 := fun ob => Blk.c (Blk.al BA_4 ob) 9 (v := .int .i64 t.other) rfl
  have q4A10 := fun ob => Blk.c (Blk.al BA_4 ob) 10 (v := .int .i64 t.product) rfl
  have q4A11 := fun ob => Blk.c (Blk.al BA_4 ob) 11 (v := .int .i64 t.count) rfl
  have q4A12 := fun ob => Blk.c (Blk.al BA_4 ob) 12 (v := .int .i64 t.done) rfl
  have q4A13 := fun ob => Blk.c (Blk.al BA_4 ob) 13 (v := .int .i64 t.why) rfl
  clear E4
  go_wp2_with fail
  refine (hs _ _ _ (A1.ext (Y3_4.alloc _)) (A2.ext ((Ext.refl w4).alloc _))).mono ?_
  rintro e w5 ⟨rfl, E5⟩
  clear q4A0 q4A1 q4A2 q4A3 q4A4 q4A5 q4A6 q4A7 q4A8 q4A9 q4A10 q4A11 q4A12 q4A13
  have Y4_5 : Ext w4 w5 := E5.old
  have Y0_5 : Ext w w5 := Y0_4.comp Y4_5
  have Y1_5 : Ext w1 w5 := Y1_4.comp Y4_5
  have Y2_5 : Ext w2 w5 := Y2_4.comp Y4_5
  have Y3_5 : Ext w3 w5 := Y3_4.comp Y4_5
  have Bs_5 := Blk.ex (Blk.al Bs_4 (.cells #[.slice y1 t.store.length l1, .slice y2 t.tape.length l2, .int .i64 t.taken, .slice y3 t.printed.length l3, .int .i64 t.clock, .int .i64 t.at_, .int .i64 t.phase, .int .i64 t.order, .int .i64 t.operand, .int .i64 t.other, .int .i64 t.product, .int .i64 t.count, .int .i64 t.done, .int .i64 t.why] 41)) E5
  have Bo_5 := Blk.ex (Blk.al Bo_4 (.cells #[.slice y1 t.store.length l1, .slice y2 t.tape.length l2, .int .i64 t.taken, .slice y3 t.printed.length l3, .int .i64 t.clock, .int .i64 t.at_, .int .i64 t.phase, .int .i64 t.order, .int .i64 t.operand, .int .i64 t.other, .int .i64 t.product, .int .i64 t.count, .int .i64 t.done, .int .i64 t.why] 41)) E5
  have BA_5 := Blk.ex (Blk.al BA_4 (.cells #[.slice y1 t.store.length l1, .slice y2 t.tape.length l2, .int .i64 t.taken, .slice y3 t.printed.length l3, .int .i64 t.clock, .int .i64 t.at_, .int .i64 t.phase, .int .i64 t.order, .int .i64 t.operand, .int .i64 t.other, .int .i64 t.product, .int .i64 t.count, .int .i64 t.done, .int .i64 t.why] 41)) E5
  have BB_5 := Blk.of E5
  clear Bs_4 Bo_4 BA_4 Y0_4 Y1_4 Y2_4 Y3_4
  have q5s0 := Blk.c Bs_5 0 (v := .slice a1 n1 c1) rfl
  have q5s1 := Blk.c Bs_5 1 (v := .slice a2 n2 c2) rfl
  have q5s2 := Blk.c Bs_5 2 (v := .int .i64 s.taken) rfl
  have q5s3 := Blk.c Bs_5 3 (v := .slice a3 n3 c3) rfl
  have q5s4 := Blk.c Bs_5 4 (v := .int .i64 s.clock) rfl
  have q5s5 := Blk.c Bs_5 5 (v := .int .i64 s.at_) rfl
  have q5s6 := Blk.c Bs_5 6 (v := .int .i64 s.phase) rfl
  have q5s7 := Blk.c Bs_5 7 (v := .int .i64 s.order) rfl
  have q5s8 := Blk.c Bs_5 8 (v := .int .i64 s.operand) rfl
  have q5s9 := Blk.c Bs_5 9 (v := .int .i64 s.other) rfl
  have q5s10 := Blk.c Bs_5 10 (v := .int .i64 s.product) rfl
  have q5s11 := Blk.c Bs_5 11 (v := .int .i64 s.count) rfl
  have q5s12 := Blk.c Bs_5 12 (v := .int .i64 s.done) rfl
  have q5s13 := Blk.c Bs_5 13 (v := .int .i64 s.why) rfl
  clear E5
  clear BA_5 BB_5 Bo_5
  go_wp2_with fail
  refine (h5 _ Y0_5).mono ?_
  rintro e w6 ⟨v3, rfl, A3, E6⟩
  clear q5s0 q5s1 q5s2 q5s3 q5s4 q5s5 q5s6 q5s7 q5s8 q5s9 q5s10 q5s11 q5s12 q5s13
  have Y5_6 : Ext w5 w6 := E6
  have Y0_6 : Ext w w6 := Y0_5.comp Y5_6
  have Y1_6 : Ext w1 w6 := Y1_5.comp Y5_6
  have Y2_6 : Ext w2 w6 := Y2_5.comp Y5_6
  have Y3_6 : Ext w3 w6 := Y3_5.comp Y5_6
  have Y4_6 : Ext w4 w6 := Y4_5.comp Y5_6
  have Bs_6 := Blk.ex Bs_5 E6
  clear Bs_5 Y0_5 Y1_5 Y2_5 Y3_5 Y4_5
  obtain ⟨z1, z2, z3, p1, p2, p3, rfl, _, _, _⟩ := id A3
  have q6s0 := fun ob => Blk.c (Blk.al Bs_6 ob) 0 (v := .slice a1 n1 c1) rfl
  have q6s1 := fun ob => Blk.c (Blk.al Bs_6 ob) 1 (v := .slice a2 n2 c2) rfl
  have q6s2 := fun ob => Blk.c (Blk.al Bs_6 ob) 2 (v := .int .i64 s.taken) rfl
  have q6s3 := fun ob => Blk.c (Blk.al Bs_6 ob) 3 (v := .slice a3 n3 c3) rfl
  have q6s4 := fun ob => Blk.c (Blk.al Bs_6 ob) 4 (v := .int .i64 s.clock) rfl
  have q6s5 := fun ob => Blk.c (Blk.al Bs_6 ob) 5 (v := .int .i64 s.at_) rfl
  have q6s6 := fun ob => Blk.c (Blk.al Bs_6 ob) 6 (v := .int .i64 s.phase) rfl
  have q6s7 := fun ob => Blk.c (Blk.al Bs_6 ob) 7 (v := .int .i64 s.order) rfl
  have q6s8 := fun ob => Blk.c (Blk.al Bs_6 ob) 8 (v := .int .i64 s.operand) rfl
  have q6s9 := fun ob => Blk.c (Blk.al Bs_6 ob) 9 (v := .int .i64 s.other) rfl
  have q6s10 := fun ob => Blk.c (Blk.al Bs_6 ob) 10 (v := .int .i64 s.product) rfl
  have q6s11 := fun ob => Blk.c (Blk.al Bs_6 ob) 11 (v := .int .i64 s.count) rfl
  have q6s12 := fun ob => Blk.c (Blk.al Bs_6 ob) 12 (v := .int .i64 s.done) rfl
  have q6s13 := fun ob => Blk.c (Blk.al Bs_6 ob) 13 (v := .int .i64 s.why) rfl
  clear E6
  go_wp2_with fail
  refine (h6 _ (Y0_6.alloc _)).mono ?_
  rintro e w7 ⟨v4, rfl, A4, E7⟩
  clear q6s0 q6s1 q6s2 q6s3 q6s4 q6s5 q6s6 q6s7 q6s8 q6s9 q6s10 q6s11 q6s12 q6s13
  have Y6_7 : Ext w6 w7 := E7.old
  have Y0_7 : Ext w w7 := Y0_6.comp Y6_7
  have Y1_7 : Ext w1 w7 := Y1_6.comp Y6_7
  have Y2_7 : Ext w2 w7 := Y2_6.comp Y6_7
  have Y3_7 : Ext w3 w7 := Y3_6.comp Y6_7
  have Y4_7 : Ext w4 w7 := Y4_6.comp Y6_7
  have Y5_7 : Ext w5 w7 := Y5_6.comp Y6_7
  have Bs_7 := Blk.ex (Blk.al Bs_6 (.cells #[.slice z1 y.store.length p1, .slice z2 y.tape.length p2, .int .i64 y.taken, .slice z3 y.printed.length p3, .int .i64 y.time, .int .i64 y.at_, .int .i64 y.done, .int .i64 y.why] 24)) E7
  have BC_7 := Blk.of E7
  clear Bs_6 Y0_6 Y1_6 Y2_6 Y3_6 Y4_6 Y5_6
  obtain ⟨u1, u2, u3, r1, r2, r3, rfl, _, _, _⟩ := id A4
  have q7C0 := fun ob => Blk.c (Blk.al BC_7 ob) 0 (v := .slice z1 y.store.length p1) rfl
  have q7C1 := fun ob => Blk.c (Blk.al BC_7 ob) 1 (v := .slice z2 y.tape.length p2) rfl
  have q7C2 := fun ob => Blk.c (Blk.al BC_7 ob) 2 (v := .int .i64 y.taken) rfl
  have q7C3 := fun ob => Blk.c (Blk.al BC_7 ob) 3 (v := .slice z3 y.printed.length p3) rfl
  have q7C4 := fun ob => Blk.c (Blk.al BC_7 ob) 4 (v := .int .i64 y.time) rfl
  have q7C5 := fun ob => Blk.c (Blk.al BC_7 ob) 5 (v := .int .i64 y.at_) rfl
  have q7C6 := fun ob => Blk.c (Blk.al BC_7 ob) 6 (v := .int .i64 y.done) rfl
  have q7C7 := fun ob => Blk.c (Blk.al BC_7 ob) 7 (v := .int .i64 y.why) rfl
  clear E7
  go_wp2_with fail
  refine (hs2 _ _ _ (A3.ext (Y6_7.alloc _)) (A4.ext ((Ext.refl w7).alloc _))).mono ?_
  rintro e w8 ⟨rfl, E8⟩
  clear q7C0 q7C1 q7C2 q7C3 q7C4 q7C5 q7C6 q7C7
  have Y7_8 : Ext w7 w8 := E8.old
  have Y0_8 : Ext w w8 := Y0_7.comp Y7_8
  have Y1_8 : Ext w1 w8 := Y1_7.comp Y7_8
  have Y2_8 : Ext w2 w8 := Y2_7.comp Y7_8
  have Y3_8 : Ext w3 w8 := Y3_7.comp Y7_8
  have Y4_8 : Ext w4 w8 := Y4_7.comp Y7_8
  have Y5_8 : Ext w5 w8 := Y5_7.comp Y7_8
  have Y6_8 : Ext w6 w8 := Y6_7.comp Y7_8
  have Bs_8 := Blk.ex (Blk.al Bs_7 (.cells #[.slice u1 y.store.length r1, .slice u2 y.tape.length r2, .int .i64 y.taken, .slice u3 y.printed.length r3, .int .i64 y.time, .int .i64 y.at_, .int .i64 y.done, .int .i64 y.why] 24)) E8
  have BC_8 := Blk.ex (Blk.al BC_7 (.cells #[.slice u1 y.store.length r1, .slice u2 y.tape.length r2, .int .i64 y.taken, .slice u3 y.printed.length r3, .int .i64 y.time, .int .i64 y.at_, .int .i64 y.done, .int .i64 y.why] 24)) E8
  have BD_8 := Blk.of E8
  clear Bs_7 BC_7 Y0_7 Y1_7 Y2_7 Y3_7 Y4_7 Y5_7 Y6_7
  clear E8
  go_wp2_with (go_at_call 30; refine (awake5_any _).mono ?_; rintro e w9 ⟨rfl, E9⟩)
  have Y8_9 : Ext w8 w9 := E9
  have Y0_9 : Ext w w9 := Y0_8.comp Y8_9
  have Y1_9 : Ext w1 w9 := Y1_8.comp Y8_9
  have Y2_9 : Ext w2 w9 := Y2_8.comp Y8_9
  have Y3_9 : Ext w3 w9 := Y3_8.comp Y8_9
  have Y4_9 : Ext w4 w9 := Y4_8.comp Y8_9
  have Y5_9 : Ext w5 w9 := Y5_8.comp Y8_9
  have Y6_9 : Ext w6 w9 := Y6_8.comp Y8_9
  have Y7_9 : Ext w7 w9 := Y7_8.comp Y8_9
  have Bs_9 := Blk.ex Bs_8 E9
  have BC_9 := Blk.ex BC_8 E9
  have BD_9 := Blk.ex BD_8 E9
  clear Bs_8 BC_8 BD_8 Y0_8 Y1_8 Y2_8 Y3_8 Y4_8 Y5_8 Y6_8 Y7_8
  clear E9
  go_ret
  exact ⟨rfl, Y0_9⟩
end Go.Proofs.Ytjfggepgjpdebaa
