import Derived.Outline
import Derived.Test.YtjfggepgjpdebaaML0
set_option linter.unusedVariables false
set_option linter.unusedSimpArgs false
/- Contract: PulseBack returns true. -/
namespace Go.Proofs.Ytjfggepgjpdebaa
open Go.RowKit Go.Q
set_option maxRecDepth 100000 in
set_option maxHeartbeats 8000000 in
theorem back_01 (a1 a2 a3 b1 b2 b3 : Option Addr) (n1 c1 n2 c2 n3 c3 m1 d1 m2 d2 m3 d3 : Nat) (s : Pu) (o : St) (b : PuB) (t : Pu) (w : World)
    (er : Int) (her : (er == 0) = false) (hbt : ∀ W, Ext w W → Calls Try.prog 31 #[psv a1 a2 a3 n1 c1 n2 c2 n3 c3 s] W (PbRes (b, er) W))
    (hst : ∀ W, Ext w W → Calls Try.prog 47 #[sv b1 b2 b3 m1 d1 m2 d2 m3 d3 o.taken o.time o.at_ o.done o.why] W (PuRes (t, 0) W))
    (hor : ∀ W v, PuAt W v t → Calls Try.prog 49 #[v] W (StRes (o, 0) W))
    (hss : ∀ W va vb, StAt W va o → StAt W vb o → Calls Try.prog 19 #[va, vb] W fun e w2 => e = .returned (.bool true) ∧ Ext W w2)
    (gA : StAt w (sv b1 b2 b3 m1 d1 m2 d2 m3 d3 o.taken o.time o.at_ o.done o.why) o) :
    Calls Try.prog 15 #[psv a1 a2 a3 n1 c1 n2 c2 n3 c3 s, sv b1 b2 b3 m1 d1 m2 d2 m3 d3 o.taken o.time o.at_ o.done o.why] w fun e w' => e = .returned (.bool true) ∧ Ext w w' := by
  have HGs := Lib.hid gA
  clear gA
  go_enter Try.func15, Try.ntmps15
  go_wp2_with fail
  refine (hbt _ (((Ext.refl w).alloc _).alloc _)).mono ?_
  rintro e w1 ⟨v1, rfl, A1, E1⟩
  have Y0_1 : Ext w w1 := E1.old.old
  have Bs_1 := Blk.of E1.old
  have Bo_1 := Blk.of E1
  rw [World.size_alloc] at Bo_1
  obtain ⟨x0, x1, x2, x3, y0, y1, y2, y3, rfl, _, _, _, _⟩ := id A1
  have q1o0 := fun ob => Blk.c (Blk.al Bo_1 ob) 0 (v := .slice b1 m1 d1) rfl
  have q1o1 := fun ob => Blk.c (Blk.al Bo_1 ob) 1 (v := .slice b2 m2 d2) rfl
  have q1o2 := fun ob => Blk.c (Blk.al Bo_1 ob) 2 (v := .int .i64 o.taken) rfl
  have q1o3 := fun ob => Blk.c (Blk.al Bo_1 ob) 3 (v := .slice b3 m3 d3) rfl
  have q1o4 := fun ob => Blk.c (Blk.al Bo_1 ob) 4 (v := .int .i64 o.time) rfl
  have q1o5 := fun ob => Blk.c (Blk.al Bo_1 ob) 5 (v := .int .i64 o.at_) rfl
  have q1o6 := fun ob => Blk.c (Blk.al Bo_1 ob) 6 (v := .int .i64 o.done) rfl
  have q1o7 := fun ob => Blk.c (Blk.al Bo_1 ob) 7 (v := .int .i64 o.why) rfl
  clear E1
  clear Bs_1
  go_wp2_with fail
  refine (hst _ (Y0_1.alloc _)).mono ?_
  rintro e w2 ⟨v3, rfl, A3, E2⟩
  clear q1o0 q1o1 q1o2 q1o3 q1o4 q1o5 q1o6 q1o7
  have Y1_2 : Ext w1 w2 := E2.old
  have Y0_2 : Ext w w2 := Y0_1.comp Y1_2
  have Bo_2 := Blk.ex (Blk.al Bo_1 (.cells #[.slice x0 b.lines.length y0, .slice x1 b.now.store.length y1, .slice x2 b.now.tape.length y2, .int .i64 b.now.taken, .slice x3 b.now.printed.length y3, .int .i64 b.now.clock, .int .i64 b.now.at_, .int .i64 b.now.phase, .int .i64 b.now.order, .int .i64 b.now.operand, .int .i64 b.now.other, .int .i64 b.now.product, .int .i64 b.now.count, .int .i64 b.now.done, .int .i64 b.now.why, .int .i64 b.beat, .int .i64 b.carry, .int .i64 b.sum] 50)) E2
  have Bb_2 := Blk.of E2
  clear Bo_1 Y0_1
  obtain ⟨u1, u2, u3, p1, p2, p3, rfl, _, _, _⟩ := id A3
  clear E2
  go_wp2_with fail
  refine (hor _ _ (A3.ext ((Ext.refl w2).alloc _))).mono ?_
  rintro e w3 ⟨v4, rfl, A4, E3⟩
  have Y2_3 : Ext w2 w3 := E3.old
  have Y0_3 : Ext w w3 := Y0_2.comp Y2_3
  have Y1_3 : Ext w1 w3 := Y1_2.comp Y2_3
  have Bo_3 := Blk.ex (Blk.al Bo_2 (.cells #[.slice u1 t.store.length p1, .slice u2 t.tape.length p2, .int .i64 t.taken, .slice u3 t.printed.length p3, .int .i64 t.clock, .int .i64 t.at_, .int .i64 t.phase, .int .i64 t.order, .int .i64 t.operand, .int .i64 t.other, .int .i64 t.product, .int .i64 t.count, .int .i64 t.done, .int .i64 t.why] 41)) E3
  have Bb_3 := Blk.ex (Blk.al Bb_2 (.cells #[.slice u1 t.store.length p1, .slice u2 t.tape.length p2, .int .i64 t.taken, .slice u3 t.printed.length p3, .int .i64 t.clock, .int .i64 t.at_, .int .i64 t.phase, .int .i64 t.order, .int .i64 t.operand, .int .i64 t.other, .int .i64 t.product, .int .i64 t.count, .int .i64 t.done, .int .i64 t.why] 41)) E3
  have Bp_3 := Blk.of E3
  clear Bo_2 Bb_2 Y0_2 Y1_2
  obtain ⟨g1, g2, g3, r1, r2, r3, rfl, _, _, _⟩ := id A4
  have q3o0 := fun ob => Blk.c (Blk.al Bo_3 ob) 0 (v := .slice b1 m1 d1) rfl
  have q3o1 := fun ob => Blk.c (Blk.al Bo_3 ob) 1 (v := .slice b2 m2 d2) rfl
  have q3o2 := fun ob => Blk.c (Blk.al Bo_3 ob) 2 (v := .int .i64 o.taken) rfl
  have q3o3 := fun ob => Blk.c (Blk.al Bo_3 ob) 3 (v := .slice b3 m3 d3) rfl
  have q3o4 := fun ob => Blk.c (Blk.al Bo_3 ob) 4 (v := .int .i64 o.time) rfl
  have q3o5 := fun ob => Blk.c (Blk.al Bo_3 ob) 5 (v := .int .i64 o.at_) rfl
  have q3o6 := fun ob => Blk.c (Blk.al Bo_3 ob) 6 (v := .int .i64 o.done) rfl
  have q3o7 := fun ob => Blk.c (Blk.al Bo_3 ob) 7 (v := .int .i64 o.why) rfl
  clear E3
  go_wp2_with fail
  refine (hss _ _ _ (HGs.out.ext (Y0_3.alloc _)) (A4.ext ((Ext.refl w3).alloc _))).mono ?_
  rintro e w4 ⟨rfl, E4⟩
  clear q3o0 q3o1 q3o2 q3o3 q3o4 q3o5 q3o6 q3o7
  have Y3_4 : Ext w3 w4 := E4.old
  have Y0_4 : Ext w w4 := Y0_3.comp Y3_4
  have Y1_4 : Ext w1 w4 := Y1_3.comp Y3_4
  have Y2_4 : Ext w2 w4 := Y2_3.comp Y3_4
  have Bo_4 := Blk.ex (Blk.al Bo_3 (.cells #[.slice g1 o.store.length r1, .slice g2 o.tape.length r2, .int .i64 o.taken, .slice g3 o.printed.length r3, .int .i64 o.time, .int .i64 o.at_, .int .i64 o.done, .int .i64 o.why] 24)) E4
  have Bb_4 := Blk.ex (Blk.al Bb_3 (.cells #[.slice g1 o.store.length r1, .slice g2 o.tape.length r2, .int .i64 o.taken, .slice g3 o.printed.length r3, .int .i64 o.time, .int .i64 o.at_, .int .i64 o.done, .int .i64 o.why] 24)) E4
  have Bp_4 := Blk.ex (Blk.al Bp_3 (.cells #[.slice g1 o.store.length r1, .slice g2 o.tape.length r2, .int .i64 o.taken, .slice g3 o.printed.length r3, .int .i64 o.time, .int .i64 o.at_, .int .i64 o.done, .int .i64 o.why] 24)) E4
  have Bq_4 := Blk.of E4
  clear Bo_3 Bb_3 Bp_3 Y0_3 Y1_3 Y2_3
  clear E4
  go_wp2_with (go_at_call 30; refine (awake5_any _).mono ?_; rintro e w5 ⟨rfl, E5⟩)
  have Y4_5 : Ext w4 w5 := E5
  have Y0_5 : Ext w w5 := Y0_4.comp Y4_5
  have Y1_5 : Ext w1 w5 := Y1_4.comp Y4_5
  have Y2_5 : Ext w2 w5 := Y2_4.comp Y4_5
  have Y3_5 : Ext w3 w5 := Y3_4.comp Y4_5
  have Bo_5 := Blk.ex Bo_4 E5
  have Bb_5 := Blk.ex Bb_4 E5
  have Bp_5 := Blk.ex Bp_4 E5
  have Bq_5 := Blk.ex Bq_4 E5
  clear Bo_4 Bb_4 Bp_4 Bq_4 Y0_4 Y1_4 Y2_4 Y3_4
  clear E5
  go_ret
  exact ⟨rfl, Y0_5⟩
end Go.Proofs.Ytjfggepgjpdebaa
