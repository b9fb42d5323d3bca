import Derived.Outline
import Derived.Test.YtjfggepgjpdebaaML0
set_option linter.unusedVariables false
set_option linter.unusedSimpArgs false
/- Contract: PulseBack returns true. -/
namespace Go.Proofs.Ytjfggepgjpdebaa
open Go.RowKit Go.Q
set_option maxRecDepth 100000 in
set_option maxHeartbeats 8000000 in
theorem back_10 (a1 a2 a3 b1 b2 b3 : Option Addr) (n1 c1 n2 c2 n3 c3 m1 d1 m2 d2 m3 d3 : Nat) (s : Pu) (o : St) (b : PuB) (t : Pu) (w : World)
    (hbt : ∀ W, Ext w W → Calls Try.prog 31 #[psv a1 a2 a3 n1 c1 n2 c2 n3 c3 s] W (PbR8 b W))
    (hwd : ∀ W v, PbAt W v b → Calls Try.prog 34 #[v] W (PuRes (s, 0) W))
    (hps : ∀ W va vb, PuAt W va s → PuAt W vb s → Calls Try.prog 27 #[va, vb] W fun e w2 => e = .returned (.bool true) ∧ Ext W w2)
    (hA : PuAt w (psv a1 a2 a3 n1 c1 n2 c2 n3 c3 s) s)
    (es : Int) (hes : (es != 0) = true) (hst : ∀ W, Ext w W → Calls Try.prog 47 #[sv b1 b2 b3 m1 d1 m2 d2 m3 d3 o.taken o.time o.at_ o.done o.why] W (PuRes (zpu, es) W)) :
    Calls Try.prog 15 #[psv a1 a2 a3 n1 c1 n2 c2 n3 c3 s, sv b1 b2 b3 m1 d1 m2 d2 m3 d3 o.taken o.time o.at_ o.done o.why] w fun e w' => e = .returned (.bool true) ∧ Ext w w' := by
  have HAs := Lib.hid hA
  clear hA
  go_enter Try.func15, Try.ntmps15
  go_wp2_with fail
  refine (hbt _ (((Ext.refl w).alloc _).alloc _)).mono ?_
  rintro e w1 ⟨x0, x1, x2, x3, y0, y1, k2, y2, k3, y3, rfl, A1, E1⟩
  have Y0_1 : Ext w w1 := E1.old.old
  have Bs_1 := Blk.of E1.old
  have Bo_1 := Blk.of E1
  rw [World.size_alloc] at Bo_1
  clear E1
  have HM1b := Lib.hid (Blk.range (L := [.slice x0 8 y0, .slice x1 0 y1, .slice x2 k2 y2, .int .i64 b.now.taken, .slice x3 k3 y3, .int .i64 b.now.clock, .int .i64 b.now.at_, .int .i64 b.now.phase, .int .i64 b.now.order, .int .i64 b.now.operand, .int .i64 b.now.other, .int .i64 b.now.product, .int .i64 b.now.count, .int .i64 b.now.done, .int .i64 b.now.why, .int .i64 b.beat, .int .i64 b.carry, .int .i64 b.sum]) (Blk.nw w1 #[.slice x0 8 y0, .slice x1 0 y1, .slice x2 k2 y2, .int .i64 b.now.taken, .slice x3 k3 y3, .int .i64 b.now.clock, .int .i64 b.now.at_, .int .i64 b.now.phase, .int .i64 b.now.order, .int .i64 b.now.operand, .int .i64 b.now.other, .int .i64 b.now.product, .int .i64 b.now.count, .int .i64 b.now.done, .int .i64 b.now.why, .int .i64 b.beat, .int .i64 b.carry, .int .i64 b.sum] 50))
  go_wp2_with (first | (refine wpList_load_mid rfl 50 (.tmp 5) rfl (w1.heap.size) 0 rfl [.slice x0 8 y0, .slice x1 0 y1, .slice x2 k2 y2, .int .i64 b.now.taken, .slice x3 k3 y3, .int .i64 b.now.clock, .int .i64 b.now.at_, .int .i64 b.now.phase, .int .i64 b.now.order, .int .i64 b.now.operand, .int .i64 b.now.other, .int .i64 b.now.product, .int .i64 b.now.count, .int .i64 b.now.done, .int .i64 b.now.why, .int .i64 b.beat, .int .i64 b.carry, .int .i64 b.sum] _ HM1b.out Try.underlying50 rfl (by kernel_rfl) ?_))
  refine (hwd _ _ (A1.ext ((Ext.refl w1).alloc _))).mono ?_
  rintro e w2 ⟨v2, rfl, A2, E2⟩
  clear HM1b
  have Y1_2 : Ext w1 w2 := E2.old
  have Y0_2 : Ext w w2 := Y0_1.comp Y1_2
  have Bs_2 := Blk.ex (Blk.al Bs_1 (.cells #[.slice x0 8 y0, .slice x1 0 y1, .slice x2 k2 y2, .int .i64 b.now.taken, .slice x3 k3 y3, .int .i64 b.now.clock, .int .i64 b.now.at_, .int .i64 b.now.phase, .int .i64 b.now.order, .int .i64 b.now.operand, .int .i64 b.now.other, .int .i64 b.now.product, .int .i64 b.now.count, .int .i64 b.now.done, .int .i64 b.now.why, .int .i64 b.beat, .int .i64 b.carry, .int .i64 b.sum] 50)) E2
  have Bo_2 := Blk.ex (Blk.al Bo_1 (.cells #[.slice x0 8 y0, .slice x1 0 y1, .slice x2 k2 y2, .int .i64 b.now.taken, .slice x3 k3 y3, .int .i64 b.now.clock, .int .i64 b.now.at_, .int .i64 b.now.phase, .int .i64 b.now.order, .int .i64 b.now.operand, .int .i64 b.now.other, .int .i64 b.now.product, .int .i64 b.now.count, .int .i64 b.now.done, .int .i64 b.now.why, .int .i64 b.beat, .int .i64 b.carry, .int .i64 b.sum] 50)) E2
  have Bb_2 := Blk.of E2
  clear Bs_1 Bo_1 Y0_1
  obtain ⟨z1, z2, z3, l1, l2, l3, rfl, _, _, _⟩ := id A2
  have q2s0 := fun ob => Blk.c (Blk.al Bs_2 ob) 0 (v := .slice a1 n1 c1) rfl
  have q2s1 := fun ob => Blk.c (Blk.al Bs_2 ob) 1 (v := .slice a2 n2 c2) rfl
  have q2s2 := fun ob => Blk.c (Blk.al Bs_2 ob) 2 (v := .int .i64 s.taken) rfl
  have q2s3 := fun ob => Blk.c (Blk.al Bs_2 ob) 3 (v := .slice a3 n3 c3) rfl
  have q2s4 := fun ob => Blk.c (Blk.al Bs_2 ob) 4 (v := .int .i64 s.clock) rfl
  have q2s5 := fun ob => Blk.c (Blk.al Bs_2 ob) 5 (v := .int .i64 s.at_) rfl
  have q2s6 := fun ob => Blk.c (Blk.al Bs_2 ob) 6 (v := .int .i64 s.phase) rfl
  have q2s7 := fun ob => Blk.c (Blk.al Bs_2 ob) 7 (v := .int .i64 s.order) rfl
  have q2s8 := fun ob => Blk.c (Blk.al Bs_2 ob) 8 (v := .int .i64 s.operand) rfl
  have q2s9 := fun ob => Blk.c (Blk.al Bs_2 ob) 9 (v := .int .i64 s.other) rfl
  have q2s10 := fun ob => Blk.c (Blk.al Bs_2 ob) 10 (v := .int .i64 s.product) rfl
  have q2s11 := fun ob => Blk.c (Blk.al Bs_2 ob) 11 (v := .int .i64 s.count) rfl
  have q2s12 := fun ob => Blk.c (Blk.al Bs_2 ob) 12 (v := .int .i64 s.done) rfl
  have q2s13 := fun ob => Blk.c (Blk.al Bs_2 ob) 13 (v := .int .i64 s.why) rfl
  clear E2
  go_wp2_with fail
  refine (hps _ _ _ (HAs.out.ext (Y0_2.alloc _)) (A2.ext ((Ext.refl w2).alloc _))).mono ?_
  rintro e w3 ⟨rfl, E3⟩
  clear q2s0 q2s1 q2s2 q2s3 q2s4 q2s5 q2s6 q2s7 q2s8 q2s9 q2s10 q2s11 q2s12 q2s13
  have Y2_3 : Ext w2 w3 := E3.old
  have Y0_3 : Ext w w3 := Y0_2.comp Y2_3
  have Y1_3 : Ext w1 w3 := Y1_2.comp Y2_3
  have Bs_3 := Blk.ex (Blk.al Bs_2 (.cells #[.slice z1 s.store.length l1, .slice z2 s.tape.length l2, .int .i64 s.taken, .slice z3 s.printed.length l3, .int .i64 s.clock, .int .i64 s.at_, .int .i64 s.phase, .int .i64 s.order, .int .i64 s.operand, .int .i64 s.other, .int .i64 s.product, .int .i64 s.count, .int .i64 s.done, .int .i64 s.why] 41)) E3
  have Bo_3 := Blk.ex (Blk.al Bo_2 (.cells #[.slice z1 s.store.length l1, .slice z2 s.tape.length l2, .int .i64 s.taken, .slice z3 s.printed.length l3, .int .i64 s.clock, .int .i64 s.at_, .int .i64 s.phase, .int .i64 s.order, .int .i64 s.operand, .int .i64 s.other, .int .i64 s.product, .int .i64 s.count, .int .i64 s.done, .int .i64 s.why] 41)) E3
  have Bb_3 := Blk.ex (Blk.al Bb_2 (.cells #[.slice z1 s.store.length l1, .slice z2 s.tape.length l2, .int .i64 s.taken, .slice z3 s.printed.length l3, .int .i64 s.clock, .int .i64 s.at_, .int .i64 s.phase, .int .i64 s.order, .int .i64 s.operand, .int .i64 s.other, .int .i64 s.product, .int .i64 s.count, .int .i64 s.done, .int .i64 s.why] 41)) E3
  have Bt_3 := Blk.of E3
  clear Bs_2 Bo_2 Bb_2 Y0_2 Y1_2
  have q3b0 := Blk.c Bb_3 0 (v := .slice x0 8 y0) rfl
  have q3b1 := Blk.c Bb_3 1 (v := .slice x1 0 y1) rfl
  have q3o0 := Blk.c Bo_3 0 (v := .slice b1 m1 d1) rfl
  have q3o1 := Blk.c Bo_3 1 (v := .slice b2 m2 d2) rfl
  have q3o2 := Blk.c Bo_3 2 (v := .int .i64 o.taken) rfl
  have q3o3 := Blk.c Bo_3 3 (v := .slice b3 m3 d3) rfl
  have q3o4 := Blk.c Bo_3 4 (v := .int .i64 o.time) rfl
  have q3o5 := Blk.c Bo_3 5 (v := .int .i64 o.at_) rfl
  have q3o6 := Blk.c Bo_3 6 (v := .int .i64 o.done) rfl
  have q3o7 := Blk.c Bo_3 7 (v := .int .i64 o.why) rfl
  clear E3
  clear Bs_3 Bb_3 Bt_3
  go_wp2_with fail
  refine (hst _ Y0_3).mono ?_
  rintro e w4 ⟨v3, rfl, A3, E4⟩
  clear q3b0 q3b1 q3o0 q3o1 q3o2 q3o3 q3o4 q3o5 q3o6 q3o7
  have Y3_4 : Ext w3 w4 := E4
  have Y0_4 : Ext w w4 := Y0_3.comp Y3_4
  have Y1_4 : Ext w1 w4 := Y1_3.comp Y3_4
  have Y2_4 : Ext w2 w4 := Y2_3.comp Y3_4
  have Bo_4 := Blk.ex Bo_3 E4
  clear Bo_3 Y0_3 Y1_3 Y2_3
  obtain ⟨u1, u2, u3, p1, p2, p3, rfl, _, _, _⟩ := id A3
  clear E4
  go_wp2_with (go_at_call 30; refine (awake5_any _).mono ?_; rintro e w5 ⟨rfl, E5⟩)
  have Y4_5 : Ext w4 w5 := E5.old
  have Y0_5 : Ext w w5 := Y0_4.comp Y4_5
  have Y1_5 : Ext w1 w5 := Y1_4.comp Y4_5
  have Y2_5 : Ext w2 w5 := Y2_4.comp Y4_5
  have Y3_5 : Ext w3 w5 := Y3_4.comp Y4_5
  have Bo_5 := Blk.ex (Blk.al Bo_4 (.cells #[.slice u1 0 p1, .slice u2 0 p2, .int .i64 0, .slice u3 0 p3, .int .i64 0, .int .i64 0, .int .i64 0, .int .i64 0, .int .i64 0, .int .i64 0, .int .i64 0, .int .i64 0, .int .i64 0, .int .i64 0] 41)) E5
  have Bp_5 := Blk.of E5
  clear Bo_4 Y0_4 Y1_4 Y2_4 Y3_4
  clear E5
  go_ret
  exact ⟨rfl, Y0_5⟩
end Go.Proofs.Ytjfggepgjpdebaa
