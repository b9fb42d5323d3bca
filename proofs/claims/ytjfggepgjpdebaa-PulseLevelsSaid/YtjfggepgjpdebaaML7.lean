import Derived.Outline
import Derived.Test.YtjfggepgjpdebaaML0
set_option linter.unusedVariables false
set_option linter.unusedSimpArgs false
/- Contract: PulseLevels returns true. -/
namespace Go.Proofs.Ytjfggepgjpdebaa
open Go.RowKit Go.Q
/-- zeros were returned, with an error -/
def PbZ (er : Int) (w : World) (e : Ending) (w' : World) : Prop := ∃ x0 x1 x2 x3 y0 y1 y2 y3, e = .returned (.tuple #[.agg #[.slice x0 0 y0, .slice x1 0 y1, .slice x2 0 y2, .int .i64 0, .slice x3 0 y3, .int .i64 0, .int .i64 0, .int .i64 0, .int .i64 0, .int .i64 0, .int .i64 0, .int .i64 0, .int .i64 0, .int .i64 0, .int .i64 0, .int .i64 0, .int .i64 0, .int .i64 0], .int .i64 er]) ∧ Ext w w'
theorem PbZ.of {er : Int} {w w' : World} {e : Ending} (h : PbRes (zpb, er) w e w') : PbZ er w e w' := by
  obtain ⟨v, rfl, ⟨aL, a1, a2, a3, cL, c1, c2, c3, rfl, _⟩, hE⟩ := h
  exact ⟨aL, a1, a2, a3, cL, c1, c2, c3, rfl, hE⟩
def PuZ (er : Int) (w : World) (e : Ending) (w' : World) : Prop := ∃ u1 u2 u3 p1 p2 p3, e = .returned (.tuple #[.agg #[.slice u1 0 p1, .slice u2 0 p2, .int .i64 0, .slice u3 0 p3, .int .i64 0, .int .i64 0, .int .i64 0, .int .i64 0, .int .i64 0, .int .i64 0, .int .i64 0, .int .i64 0, .int .i64 0, .int .i64 0], .int .i64 er]) ∧ Ext w w'
theorem PuZ.of {er : Int} {w w' : World} {e : Ending} (h : PuRes (zpu, er) w e w') : PuZ er w e w' := by
  obtain ⟨v, rfl, ⟨a1, a2, a3, c1, c2, c3, rfl, _⟩, hE⟩ := h
  exact ⟨a1, a2, a3, c1, c2, c3, rfl, hE⟩
set_option maxRecDepth 100000 in
set_option maxHeartbeats 8000000 in
theorem levels_bad (a1 a2 a3 : Option Addr) (n1 c1 n2 c2 n3 c3 : Nat) (s : Pu) (x er : Int) (w : World) (hx : 0 ≤ x ∧ x ≤ 255) (her : (er != 0) = true)
    (h1 : ∀ W, Ext w W → Calls Try.prog 25 #[psv a1 a2 a3 n1 c1 n2 c2 n3 c3 s, .int .i64 x] W (PuZ er W))
    (h2 : ∀ W, Ext w W → Calls Try.prog 31 #[psv a1 a2 a3 n1 c1 n2 c2 n3 c3 s] W (PbZ er W)) :
    Calls Try.prog 9 #[psv a1 a2 a3 n1 c1 n2 c2 n3 c3 s, .int .u8 x] w fun e w' => e = .returned (.bool true) ∧ Ext w w' := by
  have hee : (er == er) = true := by simp
  go_enter Try.func9, Try.ntmps9
  go_wp2_with fail
  refine (h1 _ ((Ext.refl w).alloc _)).mono ?_
  rintro e w1 ⟨u1, u2, u3, p1, p2, p3, rfl, E1⟩
  have Y0_1 : Ext w w1 := E1.old
  have Bs_1 := Blk.of E1
  have q1s0 := fun ob => Blk.c (Blk.al Bs_1 ob) 0 (v := .slice a1 n1 c1) rfl
  have q1s1 := fun ob => Blk.c (Blk.al Bs_1 ob) 1 (v := .slice a2 n2 c2) rfl
  have q1s2 := fun ob => Blk.c (Blk.al Bs_1 ob) 2 (v := .int .i64 s.taken) rfl
  have q1s3 := fun ob => Blk.c (Blk.al Bs_1 ob) 3 (v := .slice a3 n3 c3) rfl
  have q1s4 := fun ob => Blk.c (Blk.al Bs_1 ob) 4 (v := .int .i64 s.clock) rfl
  have q1s5 := fun ob => Blk.c (Blk.al Bs_1 ob) 5 (v := .int .i64 s.at_) rfl
  have q1s6 := fun ob => Blk.c (Blk.al Bs_1 ob) 6 (v := .int .i64 s.phase) rfl
  have q1s7 := fun ob => Blk.c (Blk.al Bs_1 ob) 7 (v := .int .i64 s.order) rfl
  have q1s8 := fun ob => Blk.c (Blk.al Bs_1 ob) 8 (v := .int .i64 s.operand) rfl
  have q1s9 := fun ob => Blk.c (Blk.al Bs_1 ob) 9 (v := .int .i64 s.other) rfl
  have q1s10 := fun ob => Blk.c (Blk.al Bs_1 ob) 10 (v := .int .i64 s.product) rfl
  have q1s11 := fun ob => Blk.c (Blk.al Bs_1 ob) 11 (v := .int .i64 s.count) rfl
  have q1s12 := fun ob => Blk.c (Blk.al Bs_1 ob) 12 (v := .int .i64 s.done) rfl
  have q1s13 := fun ob => Blk.c (Blk.al Bs_1 ob) 13 (v := .int .i64 s.why) rfl
  clear E1
  go_wp2_with fail
  refine (h2 _ (Y0_1.alloc _)).mono ?_
  rintro e w2 ⟨x0, x1, x2, x3, y0, y1, y2, y3, rfl, E2⟩
  clear q1s0 q1s1 q1s2 q1s3 q1s4 q1s5 q1s6 q1s7 q1s8 q1s9 q1s10 q1s11 q1s12 q1s13
  have Y1_2 : Ext w1 w2 := E2.old
  have Y0_2 : Ext w w2 := Y0_1.comp Y1_2
  have Bs_2 := Blk.ex (Blk.al Bs_1 (.cells #[.slice u1 0 p1, .slice u2 0 p2, .int .i64 0, .slice u3 0 p3, .int .i64 0, .int .i64 0, .int .i64 0, .int .i64 0, .int .i64 0, .int .i64 0, .int .i64 0, .int .i64 0, .int .i64 0, .int .i64 0] 41)) E2
  have Bt_2 := Blk.of E2
  clear Bs_1 Y0_1
  clear E2
  go_wp2_with (go_at_call 30; refine (awake5_any _).mono ?_; rintro e w3 ⟨rfl, E3⟩)
  have Y2_3 : Ext w2 w3 := E3.old
  have Y0_3 : Ext w w3 := Y0_2.comp Y2_3
  have Y1_3 : Ext w1 w3 := Y1_2.comp Y2_3
  have Bs_3 := Blk.ex (Blk.al Bs_2 (.cells #[.slice x0 0 y0, .slice x1 0 y1, .slice x2 0 y2, .int .i64 0, .slice x3 0 y3, .int .i64 0, .int .i64 0, .int .i64 0, .int .i64 0, .int .i64 0, .int .i64 0, .int .i64 0, .int .i64 0, .int .i64 0, .int .i64 0, .int .i64 0, .int .i64 0, .int .i64 0] 50)) E3
  have Bt_3 := Blk.ex (Blk.al Bt_2 (.cells #[.slice x0 0 y0, .slice x1 0 y1, .slice x2 0 y2, .int .i64 0, .slice x3 0 y3, .int .i64 0, .int .i64 0, .int .i64 0, .int .i64 0, .int .i64 0, .int .i64 0, .int .i64 0, .int .i64 0, .int .i64 0, .int .i64 0, .int .i64 0, .int .i64 0, .int .i64 0] 50)) E3
  have Bb_3 := Blk.of E3
  clear Bs_2 Bt_2 Y0_2 Y1_2
  clear E3
  go_ret
  exact ⟨rfl, Y0_3⟩
set_option maxRecDepth 100000 in
set_option maxHeartbeats 8000000 in
theorem levels_good (a1 a2 a3 : Option Addr) (n1 c1 n2 c2 n3 c3 : Nat) (s t : Pu) (b c : PuB) (x : Int) (w : World) (hx : 0 ≤ x ∧ x ≤ 255)
    (h1 : ∀ W, Ext w W → Calls Try.prog 25 #[psv a1 a2 a3 n1 c1 n2 c2 n3 c3 s, .int .i64 x] W (PuR t W))
    (h2 : ∀ W, Ext w W → Calls Try.prog 31 #[psv a1 a2 a3 n1 c1 n2 c2 n3 c3 s] W (PbR8 b W))
    (h3 : ∀ W v, PbAt W v b → Calls Try.prog 36 #[v, .int .i64 (x * 24)] W (PbR8 c W))
    (h4 : ∀ W v, PbAt W v c → Calls Try.prog 34 #[v] W (PuR t W))
    (hps : ∀ W va vb, PuAt W va t → PuAt W vb t → Calls Try.prog 27 #[va, vb] W fun e w2 => e = .returned (.bool true) ∧ Ext W w2) :
    Calls Try.prog 9 #[psv a1 a2 a3 n1 c1 n2 c2 n3 c3 s, .int .u8 x] w fun e w' => e = .returned (.bool true) ∧ Ext w w' := by
  go_enter Try.func9, Try.ntmps9
  go_wp2_with fail
  refine (h1 _ ((Ext.refl w).alloc _)).mono ?_
  rintro e w1 ⟨u1, u2, u3, p1, m2, p2, m3, p3, rfl, A1, E1⟩
  have Y0_1 : Ext w w1 := E1.old
  have Bs_1 := Blk.of E1
  have q1s0 := fun ob => Blk.c (Blk.al Bs_1 ob) 0 (v := .slice a1 n1 c1) rfl
  have q1s1 := fun ob => Blk.c (Blk.al Bs_1 ob) 1 (v := .slice a2 n2 c2) rfl
  have q1s2 := fun ob => Blk.c (Blk.al Bs_1 ob) 2 (v := .int .i64 s.taken) rfl
  have q1s3 := fun ob => Blk.c (Blk.al Bs_1 ob) 3 (v := .slice a3 n3 c3) rfl
  have q1s4 := fun ob => Blk.c (Blk.al Bs_1 ob) 4 (v := .int .i64 s.clock) rfl
  have q1s5 := fun ob => Blk.c (Blk.al Bs_1 ob) 5 (v := .int .i64 s.at_) rfl
  have q1s6 := fun ob => Blk.c (Blk.al Bs_1 ob) 6 (v := .int .i64 s.phase) rfl
  have q1s7 := fun ob => Blk.c (Blk.al Bs_1 ob) 7 (v := .int .i64 s.order) rfl
  have q1s8 := fun ob => Blk.c (Blk.al Bs_1 ob) 8 (v := .int .i64 s.operand) rfl
  have q1s9 := fun ob => Blk.c (Blk.al Bs_1 ob) 9 (v := .int .i64 s.other) rfl
  have q1s10 := fun ob => Blk.c (Blk.al Bs_1 ob) 10 (v := .int .i64 s.product) rfl
  have q1s11 := fun ob => Blk.c (Blk.al Bs_1 ob) 11 (v := .int .i64 s.count) rfl
  have q1s12 := fun ob => Blk.c (Blk.al Bs_1 ob) 12 (v := .int .i64 s.done) rfl
  have q1s13 := fun ob => Blk.c (Blk.al Bs_1 ob) 13 (v := .int .i64 s.why) rfl
  clear E1
  go_wp2_with fail
  refine (h2 _ (Y0_1.alloc _)).mono ?_
  rintro e w2 ⟨x0, x1, x2, x3, y0, y1, k2, y2, k3, y3, rfl, A2, E2⟩
  clear q1s0 q1s1 q1s2 q1s3 q1s4 q1s5 q1s6 q1s7 q1s8 q1s9 q1s10 q1s11 q1s12 q1s13
  have Y1_2 : Ext w1 w2 := E2.old
  have Y0_2 : Ext w w2 := Y0_1.comp Y1_2
  have Bs_2 := Blk.ex (Blk.al Bs_1 (.cells #[.slice u1 128 p1, .slice u2 m2 p2, .int .i64 t.taken, .slice u3 m3 p3, .int .i64 t.clock, .int .i64 t.at_, .int .i64 t.phase, .int .i64 t.order, .int .i64 t.operand, .int .i64 t.other, .int .i64 t.product, .int .i64 t.count, .int .i64 t.done, .int .i64 t.why] 41)) E2
  have Bt_2 := Blk.of E2
  clear Bs_1 Y0_1
  clear E2
  clear Bs_2
  as_aux_lemma =>
  have HM2b := Lib.hid (Blk.range (L := [.slice x0 8 y0, .slice x1 0 y1, .slice x2 k2 y2, .int .i64 b.now.taken, .slice x3 k3 y3, .int .i64 b.now.clock, .int .i64 b.now.at_, .int .i64 b.now.phase, .int .i64 b.now.order, .int .i64 b.now.operand, .int .i64 b.now.other, .int .i64 b.now.product, .int .i64 b.now.count, .int .i64 b.now.done, .int .i64 b.now.why, .int .i64 b.beat, .int .i64 b.carry, .int .i64 b.sum]) (Blk.nw w2 #[.slice x0 8 y0, .slice x1 0 y1, .slice x2 k2 y2, .int .i64 b.now.taken, .slice x3 k3 y3, .int .i64 b.now.clock, .int .i64 b.now.at_, .int .i64 b.now.phase, .int .i64 b.now.order, .int .i64 b.now.operand, .int .i64 b.now.other, .int .i64 b.now.product, .int .i64 b.now.count, .int .i64 b.now.done, .int .i64 b.now.why, .int .i64 b.beat, .int .i64 b.carry, .int .i64 b.sum] 50))
  go_wp2_with (first | (refine wpList_load_mid rfl 50 (.tmp 7) rfl (w2.heap.size) 0 rfl [.slice x0 8 y0, .slice x1 0 y1, .slice x2 k2 y2, .int .i64 b.now.taken, .slice x3 k3 y3, .int .i64 b.now.clock, .int .i64 b.now.at_, .int .i64 b.now.phase, .int .i64 b.now.order, .int .i64 b.now.operand, .int .i64 b.now.other, .int .i64 b.now.product, .int .i64 b.now.count, .int .i64 b.now.done, .int .i64 b.now.why, .int .i64 b.beat, .int .i64 b.carry, .int .i64 b.sum] _ HM2b.out Try.underlying50 rfl (by kernel_rfl) ?_))
  refine (h3 _ _ (A2.ext ((Ext.refl w2).alloc _))).mono ?_
  rintro e w3 ⟨z0, z1, z2, z3, v0, v1, l2, v2, l3, v3, rfl, A3, E3⟩
  clear HM2b
  have Y2_3 : Ext w2 w3 := E3.old
  have Y0_3 : Ext w w3 := Y0_2.comp Y2_3
  have Y1_3 : Ext w1 w3 := Y1_2.comp Y2_3
  have Bt_3 := Blk.ex (Blk.al Bt_2 (.cells #[.slice x0 8 y0, .slice x1 0 y1, .slice x2 k2 y2, .int .i64 b.now.taken, .slice x3 k3 y3, .int .i64 b.now.clock, .int .i64 b.now.at_, .int .i64 b.now.phase, .int .i64 b.now.order, .int .i64 b.now.operand, .int .i64 b.now.other, .int .i64 b.now.product, .int .i64 b.now.count, .int .i64 b.now.done, .int .i64 b.now.why, .int .i64 b.beat, .int .i64 b.carry, .int .i64 b.sum] 50)) E3
  have Bb_3 := Blk.of E3
  clear Bt_2 Y0_2 Y1_2
  clear E3
  clear Bb_3
  as_aux_lemma =>
  have HM3c := Lib.hid (Blk.range (L := [.slice z0 8 v0, .slice z1 0 v1, .slice z2 l2 v2, .int .i64 c.now.taken, .slice z3 l3 v3, .int .i64 c.now.clock, .int .i64 c.now.at_, .int .i64 c.now.phase, .int .i64 c.now.order, .int .i64 c.now.operand, .int .i64 c.now.other, .int .i64 c.now.product, .int .i64 c.now.count, .int .i64 c.now.done, .int .i64 c.now.why, .int .i64 c.beat, .int .i64 c.carry, .int .i64 c.sum]) (Blk.nw w3 #[.slice z0 8 v0, .slice z1 0 v1, .slice z2 l2 v2, .int .i64 c.now.taken, .slice z3 l3 v3, .int .i64 c.now.clock, .int .i64 c.now.at_, .int .i64 c.now.phase, .int .i64 c.now.order, .int .i64 c.now.operand, .int .i64 c.now.other, .int .i64 c.now.product, .int .i64 c.now.count, .int .i64 c.now.done, .int .i64 c.now.why, .int .i64 c.beat, .int .i64 c.carry, .int .i64 c.sum] 50))
  go_wp2_with (first | (refine wpList_load_mid rfl 50 (.tmp 9) rfl (w3.heap.size) 0 rfl [.slice z0 8 v0, .slice z1 0 v1, .slice z2 l2 v2, .int .i64 c.now.taken, .slice z3 l3 v3, .int .i64 c.now.clock, .int .i64 c.now.at_, .int .i64 c.now.phase, .int .i64 c.now.order, .int .i64 c.now.operand, .int .i64 c.now.other, .int .i64 c.now.product, .int .i64 c.now.count, .int .i64 c.now.done, .int .i64 c.now.why, .int .i64 c.beat, .int .i64 c.carry, .int .i64 c.sum] _ HM3c.out Try.underlying50 rfl (by kernel_rfl) ?_))
  refine (h4 _ _ (A3.ext ((Ext.refl w3).alloc _))).mono ?_
  rintro e w4 ⟨g1, g2, g3, q1, r2, q2, r3, q3, rfl, A4, E4⟩
  clear HM3c
  have Y3_4 : Ext w3 w4 := E4.old
  have Y0_4 : Ext w w4 := Y0_3.comp Y3_4
  have Y1_4 : Ext w1 w4 := Y1_3.comp Y3_4
  have Y2_4 : Ext w2 w4 := Y2_3.comp Y3_4
  have Bt_4 := Blk.ex (Blk.al Bt_3 (.cells #[.slice z0 8 v0, .slice z1 0 v1, .slice z2 l2 v2, .int .i64 c.now.taken, .slice z3 l3 v3, .int .i64 c.now.clock, .int .i64 c.now.at_, .int .i64 c.now.phase, .int .i64 c.now.order, .int .i64 c.now.operand, .int .i64 c.now.other, .int .i64 c.now.product, .int .i64 c.now.count, .int .i64 c.now.done, .int .i64 c.now.why, .int .i64 c.beat, .int .i64 c.carry, .int .i64 c.sum] 50)) E4
  have Bc_4 := Blk.of E4
  clear Bt_3 Y0_3 Y1_3 Y2_3
  have q4t0 := fun ob => Blk.c (Blk.al Bt_4 ob) 0 (v := .slice u1 128 p1) rfl
  have q4t1 := fun ob => Blk.c (Blk.al Bt_4 ob) 1 (v := .slice u2 m2 p2) rfl
  have q4t2 := fun ob => Blk.c (Blk.al Bt_4 ob) 2 (v := .int .i64 t.taken) rfl
  have q4t3 := fun ob => Blk.c (Blk.al Bt_4 ob) 3 (v := .slice u3 m3 p3) rfl
  have q4t4 := fun ob => Blk.c (Blk.al Bt_4 ob) 4 (v := .int .i64 t.clock) rfl
  have q4t5 := fun ob => Blk.c (Blk.al Bt_4 ob) 5 (v := .int .i64 t.at_) rfl
  have q4t6 := fun ob => Blk.c (Blk.al Bt_4 ob) 6 (v := .int .i64 t.phase) rfl
  have q4t7 := fun ob => Blk.c (Blk.al Bt_4 ob) 7 (v := .int .i64 t.order) rfl
  have q4t8 := fun ob => Blk.c (Blk.al Bt_4 ob) 8 (v := .int .i64 t.operand) rfl
  have q4t9 := fun ob => Blk.c (Blk.al Bt_4 ob) 9 (v := .int .i64 t.other) rfl
  have q4t10 := fun ob => Blk.c (Blk.al Bt_4 ob) 10 (v := .int .i64 t.product) rfl
  have q4t11 := fun ob => Blk.c (Blk.al Bt_4 ob) 11 (v := .int .i64 t.count) rfl
  have q4t12 := fun ob => Blk.c (Blk.al Bt_4 ob) 12 (v := .int .i64 t.done) rfl
  have q4t13 := fun ob => Blk.c (Blk.al Bt_4 ob) 13 (v := .int .i64 t.why) rfl
  clear E4
  as_aux_lemma =>
  go_wp2_with fail
  refine (hps _ _ _ (A1.ext (Y1_4.alloc _)) (A4.ext ((Ext.refl w4).alloc _))).mono ?_
  rintro e w5 ⟨rfl, E5⟩
  clear q4t0 q4t1 q4t2 q4t3 q4t4 q4t5 q4t6 q4t7 q4t8 q4t9 q4t10 q4t11 q4t12 q4t13
  have Y4_5 : Ext w4 w5 := E5.old
  have Y0_5 : Ext w w5 := Y0_4.comp Y4_5
  have Y1_5 : Ext w1 w5 := Y1_4.comp Y4_5
  have Y2_5 : Ext w2 w5 := Y2_4.comp Y4_5
  have Y3_5 : Ext w3 w5 := Y3_4.comp Y4_5
  have Bt_5 := Blk.ex (Blk.al Bt_4 (.cells #[.slice g1 128 q1, .slice g2 r2 q2, .int .i64 t.taken, .slice g3 r3 q3, .int .i64 t.clock, .int .i64 t.at_, .int .i64 t.phase, .int .i64 t.order, .int .i64 t.operand, .int .i64 t.other, .int .i64 t.product, .int .i64 t.count, .int .i64 t.done, .int .i64 t.why] 41)) E5
  have Bc_5 := Blk.ex (Blk.al Bc_4 (.cells #[.slice g1 128 q1, .slice g2 r2 q2, .int .i64 t.taken, .slice g3 r3 q3, .int .i64 t.clock, .int .i64 t.at_, .int .i64 t.phase, .int .i64 t.order, .int .i64 t.operand, .int .i64 t.other, .int .i64 t.product, .int .i64 t.count, .int .i64 t.done, .int .i64 t.why] 41)) E5
  have Bu_5 := Blk.of E5
  clear Bt_4 Bc_4 Y0_4 Y1_4 Y2_4 Y3_4
  clear E5
  go_wp2_with (go_at_call 30; refine (awake5_any _).mono ?_; rintro e w6 ⟨rfl, E6⟩)
  have Y5_6 : Ext w5 w6 := E6
  have Y0_6 : Ext w w6 := Y0_5.comp Y5_6
  have Y1_6 : Ext w1 w6 := Y1_5.comp Y5_6
  have Y2_6 : Ext w2 w6 := Y2_5.comp Y5_6
  have Y3_6 : Ext w3 w6 := Y3_5.comp Y5_6
  have Y4_6 : Ext w4 w6 := Y4_5.comp Y5_6
  have Bt_6 := Blk.ex Bt_5 E6
  have Bc_6 := Blk.ex Bc_5 E6
  have Bu_6 := Blk.ex Bu_5 E6
  clear Bt_5 Bc_5 Bu_5 Y0_5 Y1_5 Y2_5 Y3_5 Y4_5
  clear E6
  go_ret
  exact ⟨rfl, Y0_6⟩
theorem levels_law (v : Value) (s : Pu) (x : Int) (w : World) (h : PuAt w v s) (hb : PuBd s) (hx : 0 ≤ x ∧ x ≤ 255) :
    Calls Try.prog 9 #[v, .int .u8 x] w fun e w' => e = .returned (.bool true) ∧ Ext w w' := by
  have h1 := fun W (E : Ext w W) => minors_any v s x W (h.ext E) hb
  have h2 := fun W (E : Ext w W) => pbits_any v s W (h.ext E) hb
  obtain ⟨a1, a2, a3, c1, c2, c3, rfl, _, _, _⟩ := id h
  by_cases hc : (checkP s).2.2 = 0
  · have hv := valid_check hc
    have e1 : bitsE s = (bitsP s, 0) := by unfold bitsE; rw [if_neg (by rw [hc]; decide)]
    rw [e1] at h2
    rw [minorsE_valid hv (by omega)] at h1
    have ht := minorsP_valid x.toNat hv
    have h3 := fun W v (A : PbAt W v (bitsP s)) => beats_ok v (bitsP s) (x * 24) W A (bits_valid hv)
    have e3 : beatsE (bitsP s) (x * 24) = (bitsP (minorsP x.toNat s), 0) := by
      unfold beatsE
      rw [stateE_valid (bits_valid hv), if_neg (by decide), if_pos (inB_mk (by omega) (by omega)), show (x * 24).toNat = 24 * x.toNat by omega, beats_minors _ hv]
    rw [e3] at h3
    have h4 := fun W v (A : PbAt W v (bitsP (minorsP x.toNat s))) => words_ok v (bitsP (minorsP x.toNat s)) W A (bits_valid ht)
    rw [words_bits (by rw [checkP_valid ht])] at h4
    exact levels_good a1 a2 a3 _ c1 _ c2 _ c3 s (minorsP x.toNat s) (bitsP s) (bitsP (minorsP x.toNat s)) x w hx (fun W E => (h1 W E).mono fun _ _ k => PuR.of k ht) (fun W E => (h2 W E).mono fun _ _ k => PbR8.of k (bits_valid hv))
      (fun W v A => (h3 W v A).mono fun _ _ k => PbR8.of k (bits_valid ht)) (fun W v A => (h4 W v A).mono fun _ _ k => PuR.of k ht) (fun W va vb A B => pstates_same va vb _ W A B (validP_bd ht))
  · have e1 : bitsE s = (zpb, (checkP s).2.2) := by unfold bitsE; rw [if_pos hc]; rfl
    have e2 : minorsE s x = (zpu, (checkP s).2.2) := by unfold minorsE; rw [if_pos hc]
    rw [e1] at h2
    rw [e2] at h1
    exact levels_bad a1 a2 a3 _ c1 _ c2 _ c3 s x (checkP s).2.2 w hx (by simpa using hc) (fun W E => (h1 W E).mono fun _ _ k => PuZ.of k) (fun W E => (h2 W E).mono fun _ _ k => PbZ.of k)
end Go.Proofs.Ytjfggepgjpdebaa
