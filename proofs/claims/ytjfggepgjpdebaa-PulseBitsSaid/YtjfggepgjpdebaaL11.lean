/- Contract: PulseBits returns true. -/
import Derived.Test.YtjfggepgjpdebaaML0
import Derived.Test.YtjfggepgjpdebaaQ23
import Derived.Test.YtjfggepgjpdebaaV14b
import Derived.Test.YtjfggepgjpdebaaV13
import Derived.Outline
set_option linter.unusedVariables false
set_option linter.unusedSimpArgs false
namespace Go.Proofs.Ytjfggepgjpdebaa
open Go.RowKit Go.Q

set_option maxRecDepth 100000 in
set_option maxHeartbeats 8000000 in
theorem bits_walk (a1 a2 a3 bL b1 b2 b3 : Option Addr) (n1 c1 n2 c2 n3 c3 mL dL m1 d1 m2 d2 m3 d3 : Nat) (s t : Pu) (b q : PuB) (er ey : Int) (w : World)
    (h1 : ∀ W, Ext w W → Calls Try.prog 31 #[psv a1 a2 a3 n1 c1 n2 c2 n3 c3 s] W (PbRes (q, er) W))
    (h2 : ∀ W, Ext w W → Calls Try.prog 32 #[psv a1 a2 a3 n1 c1 n2 c2 n3 c3 s] W (PbRes (q, er) W))
    (hpq : ∀ W va vb, PbAt W va q → PbAt W vb q → Calls Try.prog 33 #[va, vb] W fun e w2 => e = .returned (.bool true) ∧ Ext W w2)
    (h3 : ∀ W, Ext w W → Calls Try.prog 34 #[pbv bL b1 b2 b3 mL dL m1 d1 m2 d2 m3 d3 b] W (PuRes (t, ey) W))
    (h4 : ∀ W, Ext w W → Calls Try.prog 35 #[pbv bL b1 b2 b3 mL dL m1 d1 m2 d2 m3 d3 b] W (PuRes (t, ey) W))
    (hps : ∀ W va vb, PuAt W va t → PuAt W vb t → Calls Try.prog 27 #[va, vb] W fun e w2 => e = .returned (.bool true) ∧ Ext W w2) :
    Calls Try.prog 6 #[psv a1 a2 a3 n1 c1 n2 c2 n3 c3 s, pbv bL b1 b2 b3 mL dL m1 d1 m2 d2 m3 d3 b] w fun e w' => e = .returned (.bool true) ∧ Ext w w' := by
  have e0 : (er != er) = false := by simp
  have e1 : (ey == ey) = true := by simp
  go_enter Try.func6, Try.ntmps6
  go_wp2_with fail
  refine (h1 _ (((Ext.refl w).alloc _).alloc _)).mono ?_
  rintro e w1 ⟨v1, rfl, A1, E1⟩
  have Y0_1 : Ext w w1 := E1.old.old
  have Bs_1 := Blk.of E1.old
  have Bb_1 := Blk.of E1
  rw [World.size_alloc] at Bb_1
  obtain ⟨x0, x1, x2, x3, y0, y1, y2, y3, rfl, _, _, _, _⟩ := id A1
  have q1s0 := fun ob => Blk.c (Blk.al Bs_1 ob) 0 (v := .slice a1 n1 c1) rfl
  have q1s1 := fun ob => Blk.c (Blk.al Bs_1 ob) 1 (v := .slice a2 n2 c2) rfl
  have q1s2 := fun ob => Blk.c (Blk.al Bs_1 ob) 2 (v := .int .i64 s.taken) rfl
  have q1s3 := fun ob => Blk.c (Blk.al Bs_1 ob) 3 (v := .slice a3 n3 c3) rfl
  have q1s4 := fun ob => Blk.c (Blk.al Bs_1 ob) 4 (v := .int .i64 s.clock) rfl
  have q1s5 := fun ob => Blk.c (Blk.al Bs_1 ob) 5 (v := .int .i64 s.at_) rfl
  have q1s6 := fun ob => Blk.c (Blk.al Bs_1 ob) 6 (v := .int .i64 s.phase) rfl
  have q1s7 := fun ob => Blk.c (Blk.al Bs_1 ob) 7 (v := .int .i64 s.order) rfl
  have q1s8 := fun ob => Blk.c (Blk.al Bs_1 ob) 8 (v := .int .i64 s.operand) rfl
  have q1s9 := fun ob => Blk.c (Blk.al Bs_1 ob) 9 (v := .int .i64 s.other) rfl
  have q1s10 := fun ob => Blk.c (Blk.al Bs_1 ob) 10 (v := .int .i64 s.product) rfl
  have q1s11 := fun ob => Blk.c (Blk.al Bs_1 ob) 11 (v := .int .i64 s.count) rfl
  have q1s12 := fun ob => Blk.c (Blk.al Bs_1 ob) 12 (v := .int .i64 s.done) rfl
  have q1s13 := fun ob => Blk.c (Blk.al Bs_1 ob) 13 (v := .int .i64 s.why) rfl
  clear E1
  go_wp2_with fail
  refine (h2 _ (Y0_1.alloc _)).mono ?_
  rintro e w2 ⟨v2, rfl, A2, E2⟩
  clear q1s0 q1s1 q1s2 q1s3 q1s4 q1s5 q1s6 q1s7 q1s8 q1s9 q1s10 q1s11 q1s12 q1s13
  have Y1_2 : Ext w1 w2 := E2.old
  have Y0_2 : Ext w w2 := Y0_1.comp Y1_2
  have Bs_2 := Blk.ex (Blk.al Bs_1 (.cells #[.slice x0 q.lines.length y0, .slice x1 q.now.store.length y1, .slice x2 q.now.tape.length y2, .int .i64 q.now.taken, .slice x3 q.now.printed.length y3, .int .i64 q.now.clock, .int .i64 q.now.at_, .int .i64 q.now.phase, .int .i64 q.now.order, .int .i64 q.now.operand, .int .i64 q.now.other, .int .i64 q.now.product, .int .i64 q.now.count, .int .i64 q.now.done, .int .i64 q.now.why, .int .i64 q.beat, .int .i64 q.carry, .int .i64 q.sum] 50)) E2
  have Bb_2 := Blk.ex (Blk.al Bb_1 (.cells #[.slice x0 q.lines.length y0, .slice x1 q.now.store.length y1, .slice x2 q.now.tape.length y2, .int .i64 q.now.taken, .slice x3 q.now.printed.length y3, .int .i64 q.now.clock, .int .i64 q.now.at_, .int .i64 q.now.phase, .int .i64 q.now.order, .int .i64 q.now.operand, .int .i64 q.now.other, .int .i64 q.now.product, .int .i64 q.now.count, .int .i64 q.now.done, .int .i64 q.now.why, .int .i64 q.beat, .int .i64 q.carry, .int .i64 q.sum] 50)) E2
  have Bp_2 := Blk.of E2
  clear Bs_1 Bb_1 Y0_1
  obtain ⟨z0, z1, z2, z3, u0, u1, u2, u3, rfl, _, _, _, _⟩ := id A2
  clear E2
  clear Bs_2
  as_aux_lemma =>
  have HM2p := Lib.hid (Blk.range (L := [.slice x0 q.lines.length y0, .slice x1 q.now.store.length y1, .slice x2 q.now.tape.length y2, .int .i64 q.now.taken, .slice x3 q.now.printed.length y3, .int .i64 q.now.clock, .int .i64 q.now.at_, .int .i64 q.now.phase, .int .i64 q.now.order, .int .i64 q.now.operand, .int .i64 q.now.other, .int .i64 q.now.product, .int .i64 q.now.count, .int .i64 q.now.done, .int .i64 q.now.why, .int .i64 q.beat, .int .i64 q.carry, .int .i64 q.sum]) (Blk.al (Bp_2) (.cells #[.slice z0 q.lines.length u0, .slice z1 q.now.store.length u1, .slice z2 q.now.tape.length u2, .int .i64 q.now.taken, .slice z3 q.now.printed.length u3, .int .i64 q.now.clock, .int .i64 q.now.at_, .int .i64 q.now.phase, .int .i64 q.now.order, .int .i64 q.now.operand, .int .i64 q.now.other, .int .i64 q.now.product, .int .i64 q.now.count, .int .i64 q.now.done, .int .i64 q.now.why, .int .i64 q.beat, .int .i64 q.carry, .int .i64 q.sum] 50)))
  have HM2q := Lib.hid (Blk.range (L := [.slice z0 q.lines.length u0, .slice z1 q.now.store.length u1, .slice z2 q.now.tape.length u2, .int .i64 q.now.taken, .slice z3 q.now.printed.length u3, .int .i64 q.now.clock, .int .i64 q.now.at_, .int .i64 q.now.phase, .int .i64 q.now.order, .int .i64 q.now.operand, .int .i64 q.now.other, .int .i64 q.now.product, .int .i64 q.now.count, .int .i64 q.now.done, .int .i64 q.now.why, .int .i64 q.beat, .int .i64 q.carry, .int .i64 q.sum]) (Blk.nw w2 #[.slice z0 q.lines.length u0, .slice z1 q.now.store.length u1, .slice z2 q.now.tape.length u2, .int .i64 q.now.taken, .slice z3 q.now.printed.length u3, .int .i64 q.now.clock, .int .i64 q.now.at_, .int .i64 q.now.phase, .int .i64 q.now.order, .int .i64 q.now.operand, .int .i64 q.now.other, .int .i64 q.now.product, .int .i64 q.now.count, .int .i64 q.now.done, .int .i64 q.now.why, .int .i64 q.beat, .int .i64 q.carry, .int .i64 q.sum] 50))
  go_wp2_with (first | (refine wpList_load_mid rfl 50 (.tmp 5) rfl (w1.heap.size) 0 rfl [.slice x0 q.lines.length y0, .slice x1 q.now.store.length y1, .slice x2 q.now.tape.length y2, .int .i64 q.now.taken, .slice x3 q.now.printed.length y3, .int .i64 q.now.clock, .int .i64 q.now.at_, .int .i64 q.now.phase, .int .i64 q.now.order, .int .i64 q.now.operand, .int .i64 q.now.other, .int .i64 q.now.product, .int .i64 q.now.count, .int .i64 q.now.done, .int .i64 q.now.why, .int .i64 q.beat, .int .i64 q.carry, .int .i64 q.sum] _ HM2p.out Try.underlying50 rfl (by kernel_rfl) ?_) | (refine wpList_load_mid rfl 50 (.tmp 7) rfl (w2.heap.size) 0 rfl [.slice z0 q.lines.length u0, .slice z1 q.now.store.length u1, .slice z2 q.now.tape.length u2, .int .i64 q.now.taken, .slice z3 q.now.printed.length u3, .int .i64 q.now.clock, .int .i64 q.now.at_, .int .i64 q.now.phase, .int .i64 q.now.order, .int .i64 q.now.operand, .int .i64 q.now.other, .int .i64 q.now.product, .int .i64 q.now.count, .int .i64 q.now.done, .int .i64 q.now.why, .int .i64 q.beat, .int .i64 q.carry, .int .i64 q.sum] _ HM2q.out Try.underlying50 rfl (by kernel_rfl) ?_))
  refine (hpq _ _ _ (A1.ext (Y1_2.alloc _)) (A2.ext ((Ext.refl w2).alloc _))).mono ?_
  rintro e w3 ⟨rfl, E3⟩
  clear HM2p HM2q
  have Y2_3 : Ext w2 w3 := E3.old
  have Y0_3 : Ext w w3 := Y0_2.comp Y2_3
  have Y1_3 : Ext w1 w3 := Y1_2.comp Y2_3
  have Bb_3 := Blk.ex (Blk.al Bb_2 (.cells #[.slice z0 q.lines.length u0, .slice z1 q.now.store.length u1, .slice z2 q.now.tape.length u2, .int .i64 q.now.taken, .slice z3 q.now.printed.length u3, .int .i64 q.now.clock, .int .i64 q.now.at_, .int .i64 q.now.phase, .int .i64 q.now.order, .int .i64 q.now.operand, .int .i64 q.now.other, .int .i64 q.now.product, .int .i64 q.now.count, .int .i64 q.now.done, .int .i64 q.now.why, .int .i64 q.beat, .int .i64 q.carry, .int .i64 q.sum] 50)) E3
  have Bp_3 := Blk.ex (Blk.al Bp_2 (.cells #[.slice z0 q.lines.length u0, .slice z1 q.now.store.length u1, .slice z2 q.now.tape.length u2, .int .i64 q.now.taken, .slice z3 q.now.printed.length u3, .int .i64 q.now.clock, .int .i64 q.now.at_, .int .i64 q.now.phase, .int .i64 q.now.order, .int .i64 q.now.operand, .int .i64 q.now.other, .int .i64 q.now.product, .int .i64 q.now.count, .int .i64 q.now.done, .int .i64 q.now.why, .int .i64 q.beat, .int .i64 q.carry, .int .i64 q.sum] 50)) E3
  have Bq_3 := Blk.of E3
  clear Bb_2 Bp_2 Y0_2 Y1_2
  clear E3
  clear Bp_3 Bq_3
  as_aux_lemma =>
  have HM3b := Lib.hid (Blk.range (L := [.slice bL mL dL, .slice b1 m1 d1, .slice b2 m2 d2, .int .i64 b.now.taken, .slice b3 m3 d3, .int .i64 b.now.clock, .int .i64 b.now.at_, .int .i64 b.now.phase, .int .i64 b.now.order, .int .i64 b.now.operand, .int .i64 b.now.other, .int .i64 b.now.product, .int .i64 b.now.count, .int .i64 b.now.done, .int .i64 b.now.why, .int .i64 b.beat, .int .i64 b.carry, .int .i64 b.sum]) (Bb_3))
  go_wp2_with (first | (refine wpList_load_mid rfl 50 (.tmp 3) rfl (w.heap.size + 1) 0 rfl [.slice bL mL dL, .slice b1 m1 d1, .slice b2 m2 d2, .int .i64 b.now.taken, .slice b3 m3 d3, .int .i64 b.now.clock, .int .i64 b.now.at_, .int .i64 b.now.phase, .int .i64 b.now.order, .int .i64 b.now.operand, .int .i64 b.now.other, .int .i64 b.now.product, .int .i64 b.now.count, .int .i64 b.now.done, .int .i64 b.now.why, .int .i64 b.beat, .int .i64 b.carry, .int .i64 b.sum] _ HM3b.out Try.underlying50 rfl (by kernel_rfl) ?_))
  refine (h3 _ Y0_3).mono ?_
  rintro e w4 ⟨v3, rfl, A3, E4⟩
  clear HM3b
  have Y3_4 : Ext w3 w4 := E4
  have Y0_4 : Ext w w4 := Y0_3.comp Y3_4
  have Y1_4 : Ext w1 w4 := Y1_3.comp Y3_4
  have Y2_4 : Ext w2 w4 := Y2_3.comp Y3_4
  have Bb_4 := Blk.ex Bb_3 E4
  clear Bb_3 Y0_3 Y1_3 Y2_3
  obtain ⟨g1, g2, g3, r1, r2, r3, rfl, _, _, _⟩ := id A3
  clear E4
  as_aux_lemma =>
  have HM4b := Lib.hid (Blk.range (L := [.slice bL mL dL, .slice b1 m1 d1, .slice b2 m2 d2, .int .i64 b.now.taken, .slice b3 m3 d3, .int .i64 b.now.clock, .int .i64 b.now.at_, .int .i64 b.now.phase, .int .i64 b.now.order, .int .i64 b.now.operand, .int .i64 b.now.other, .int .i64 b.now.product, .int .i64 b.now.count, .int .i64 b.now.done, .int .i64 b.now.why, .int .i64 b.beat, .int .i64 b.carry, .int .i64 b.sum]) (Blk.al (Bb_4) (.cells #[.slice g1 t.store.length r1, .slice g2 t.tape.length r2, .int .i64 t.taken, .slice g3 t.printed.length r3, .int .i64 t.clock, .int .i64 t.at_, .int .i64 t.phase, .int .i64 t.order, .int .i64 t.operand, .int .i64 t.other, .int .i64 t.product, .int .i64 t.count, .int .i64 t.done, .int .i64 t.why] 41)))
  go_wp2_with (first | (refine wpList_load_mid rfl 50 (.tmp 3) rfl (w.heap.size + 1) 0 rfl [.slice bL mL dL, .slice b1 m1 d1, .slice b2 m2 d2, .int .i64 b.now.taken, .slice b3 m3 d3, .int .i64 b.now.clock, .int .i64 b.now.at_, .int .i64 b.now.phase, .int .i64 b.now.order, .int .i64 b.now.operand, .int .i64 b.now.other, .int .i64 b.now.product, .int .i64 b.now.count, .int .i64 b.now.done, .int .i64 b.now.why, .int .i64 b.beat, .int .i64 b.carry, .int .i64 b.sum] _ HM4b.out Try.underlying50 rfl (by kernel_rfl) ?_))
  refine (h4 _ (Y0_4.alloc _)).mono ?_
  rintro e w5 ⟨v4, rfl, A4, E5⟩
  clear HM4b
  have Y4_5 : Ext w4 w5 := E5.old
  have Y0_5 : Ext w w5 := Y0_4.comp Y4_5
  have Y1_5 : Ext w1 w5 := Y1_4.comp Y4_5
  have Y2_5 : Ext w2 w5 := Y2_4.comp Y4_5
  have Y3_5 : Ext w3 w5 := Y3_4.comp Y4_5
  have Bb_5 := Blk.ex (Blk.al Bb_4 (.cells #[.slice g1 t.store.length r1, .slice g2 t.tape.length r2, .int .i64 t.taken, .slice g3 t.printed.length r3, .int .i64 t.clock, .int .i64 t.at_, .int .i64 t.phase, .int .i64 t.order, .int .i64 t.operand, .int .i64 t.other, .int .i64 t.product, .int .i64 t.count, .int .i64 t.done, .int .i64 t.why] 41)) E5
  have Bx_5 := Blk.of E5
  clear Bb_4 Y0_4 Y1_4 Y2_4 Y3_4
  obtain ⟨f1, f2, f3, o1, o2, o3, rfl, _, _, _⟩ := id A4
  have q5x0 := fun ob => Blk.c (Blk.al Bx_5 ob) 0 (v := .slice g1 t.store.length r1) rfl
  have q5x1 := fun ob => Blk.c (Blk.al Bx_5 ob) 1 (v := .slice g2 t.tape.length r2) rfl
  have q5x2 := fun ob => Blk.c (Blk.al Bx_5 ob) 2 (v := .int .i64 t.taken) rfl
  have q5x3 := fun ob => Blk.c (Blk.al Bx_5 ob) 3 (v := .slice g3 t.printed.length r3) rfl
  have q5x4 := fun ob => Blk.c (Blk.al Bx_5 ob) 4 (v := .int .i64 t.clock) rfl
  have q5x5 := fun ob => Blk.c (Blk.al Bx_5 ob) 5 (v := .int .i64 t.at_) rfl
  have q5x6 := fun ob => Blk.c (Blk.al Bx_5 ob) 6 (v := .int .i64 t.phase) rfl
  have q5x7 := fun ob => Blk.c (Blk.al Bx_5 ob) 7 (v := .int .i64 t.order) rfl
  have q5x8 := fun ob => Blk.c (Blk.al Bx_5 ob) 8 (v := .int .i64 t.operand) rfl
  have q5x9 := fun ob => Blk.c (Blk.al Bx_5 ob) 9 (v := .int .i64 t.other) rfl
  have q5x10 := fun ob => Blk.c (Blk.al Bx_5 ob) 10 (v := .int .i64 t.product) rfl
  have q5x11 := fun ob => Blk.c (Blk.al Bx_5 ob) 11 (v := .int .i64 t.count) rfl
  have q5x12 := fun ob => Blk.c (Blk.al Bx_5 ob) 12 (v := .int .i64 t.done) rfl
  have q5x13 := fun ob => Blk.c (Blk.al Bx_5 ob) 13 (v := .int .i64 t.why) rfl
  clear E5
  clear Bb_5
  as_aux_lemma =>
  go_wp2_with fail
  refine (hps _ _ _ (A3.ext (Y4_5.alloc _)) (A4.ext ((Ext.refl w5).alloc _))).mono ?_
  rintro e w6 ⟨rfl, E6⟩
  clear q5x0 q5x1 q5x2 q5x3 q5x4 q5x5 q5x6 q5x7 q5x8 q5x9 q5x10 q5x11 q5x12 q5x13
  have Y5_6 : Ext w5 w6 := E6.old
  have Y0_6 : Ext w w6 := Y0_5.comp Y5_6
  have Y1_6 : Ext w1 w6 := Y1_5.comp Y5_6
  have Y2_6 : Ext w2 w6 := Y2_5.comp Y5_6
  have Y3_6 : Ext w3 w6 := Y3_5.comp Y5_6
  have Y4_6 : Ext w4 w6 := Y4_5.comp Y5_6
  have Bx_6 := Blk.ex (Blk.al Bx_5 (.cells #[.slice f1 t.store.length o1, .slice f2 t.tape.length o2, .int .i64 t.taken, .slice f3 t.printed.length o3, .int .i64 t.clock, .int .i64 t.at_, .int .i64 t.phase, .int .i64 t.order, .int .i64 t.operand, .int .i64 t.other, .int .i64 t.product, .int .i64 t.count, .int .i64 t.done, .int .i64 t.why] 41)) E6
  have By_6 := Blk.of E6
  clear Bx_5 Y0_5 Y1_5 Y2_5 Y3_5 Y4_5
  clear E6
  go_wp2_with (go_at_call 30; refine (awake5_any _).mono ?_; rintro e w7 ⟨rfl, E7⟩)
  have Y6_7 : Ext w6 w7 := E7
  have Y0_7 : Ext w w7 := Y0_6.comp Y6_7
  have Y1_7 : Ext w1 w7 := Y1_6.comp Y6_7
  have Y2_7 : Ext w2 w7 := Y2_6.comp Y6_7
  have Y3_7 : Ext w3 w7 := Y3_6.comp Y6_7
  have Y4_7 : Ext w4 w7 := Y4_6.comp Y6_7
  have Y5_7 : Ext w5 w7 := Y5_6.comp Y6_7
  have Bx_7 := Blk.ex Bx_6 E7
  have By_7 := Blk.ex By_6 E7
  clear Bx_6 By_6 Y0_6 Y1_6 Y2_6 Y3_6 Y4_6 Y5_6
  clear E7
  go_ret
  exact ⟨rfl, Y0_7⟩
theorem bits_law (v u : Value) (s : Pu) (b : PuB) (w : World) (h : PuAt w v s) (hb : PuBd s) (g : PbAt w u b) (gb : PbBd b) :
    Calls Try.prog 6 #[v, u] w fun e w' => e = .returned (.bool true) ∧ Ext w w' := by
  have h1 := fun W (E : Ext w W) => pbits_any v s W (h.ext E) hb
  have h2 := fun W (E : Ext w W) => rbits_any v s W (h.ext E) hb
  have h3 := fun W (E : Ext w W) => words_any u b W (g.ext E) gb
  have h4 := fun W (E : Ext w W) => rwords_any u b W (g.ext E) gb
  have hq : (bitsE s).1.lines.length ≤ 9223372036854775807 ∧ PuBd (bitsE s).1.now := by
    unfold bitsE
    split
    · exact ⟨Nat.zero_le _, Nat.zero_le _, Nat.zero_le _, Nat.zero_le _⟩
    · rename_i hc
      have hv := valid_check (s := s) (by omega)
      exact ⟨by simp [bitsP], by show (0 : Nat) ≤ _; omega, Nat.le_trans hv.tlen (by decide), Nat.le_trans hv.plen (by decide)⟩
  have ht : PuBd (wordsE b).1 := by
    unfold wordsE
    split
    · exact ⟨Nat.zero_le _, Nat.zero_le _, Nat.zero_le _⟩
    split
    · exact ⟨Nat.zero_le _, Nat.zero_le _, Nat.zero_le _⟩
    · rename_i hs _
      have hv := valid_state (b := b) (by omega)
      exact ⟨by show (storeB b.lines).length ≤ _; rw [storeB_length, hv.lines]; decide, Nat.le_trans hv.st.tlen (by decide), Nat.le_trans hv.st.plen (by decide)⟩
  have hpq := fun W va vb (A : PbAt W va (bitsE s).1) (B : PbAt W vb (bitsE s).1) => pulses_same va vb _ W A B hq.1 hq.2
  have hps := fun W va vb (A : PuAt W va (wordsE b).1) (B : PuAt W vb (wordsE b).1) => pstates_same va vb _ W A B ht
  obtain ⟨a1, a2, a3, c1, c2, c3, rfl, _, _, _⟩ := h
  obtain ⟨bL, b1, b2, b3, dL, d1, d2, d3, rfl, _, _, _, _⟩ := g
  exact bits_walk a1 a2 a3 bL b1 b2 b3 _ c1 _ c2 _ c3 _ dL _ d1 _ d2 _ d3 s (wordsE b).1 b (bitsE s).1 (bitsE s).2 (wordsE b).2 w h1 h2 hpq h3 h4 hps
end Go.Proofs.Ytjfggepgjpdebaa
