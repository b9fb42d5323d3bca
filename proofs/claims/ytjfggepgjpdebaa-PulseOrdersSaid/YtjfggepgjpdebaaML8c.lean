import Derived.Outline
import Derived.Test.YtjfggepgjpdebaaML8b
set_option linter.unusedVariables false
set_option linter.unusedSimpArgs false
/- Contract: PulseOrders returns true. -/
namespace Go.Proofs.Ytjfggepgjpdebaa
open Go.RowKit Go.Q
set_option maxRecDepth 100000 in
set_option maxHeartbeats 8000000 in
theorem orders_end (a1 a2 a3 : Option Addr) (n1 c1 n2 c2 n3 c3 : Nat) (s t0 : St) (ty uy : Int) (p Q : Pu) (x : Int) (w : World) (hx : 0 ≤ x ∧ x ≤ 255) (hs : 0 ≤ s.time ∧ s.time ≤ 1000000000) (ht : 0 ≤ t0.time ∧ t0.time ≤ 1000000000)
    (hc : (ty == 4) = false) (hc2 : (t0.time == 1000000000) = false) (hc3 : t0.time - s.time ≤ 19999) (hc0 : 0 ≤ t0.time - s.time) (h0 : t0.why = 0) (hty : (ty == 0) = false)
    (h1 : ∀ W, Ext w W → Calls Try.prog 22 #[sv a1 a2 a3 n1 c1 n2 c2 n3 c3 s.taken s.time s.at_ s.done s.why, .int .i64 x] W (StR { t0 with why := ty } W))
    (h2 : ∀ W, Ext w W → Calls Try.prog 47 #[sv a1 a2 a3 n1 c1 n2 c2 n3 c3 s.taken s.time s.at_ s.done s.why] W (PuR p W))
    (h3 : ∀ W v, PuAt W v p → Calls Try.prog 25 #[v, .int .i64 (t0.time - s.time)] W (PuRT Q W))
    (h4 : ∀ W v, PuAt W v Q → Calls Try.prog 49 #[v] W (StRT { t0 with why := uy } W))
    (h5 : ∀ W v, PuAt W v p → Calls Try.prog 25 #[v, .int .i64 (t0.time - s.time + 1)] W (PuRT { Q with why := ty } W))
    (hss : ∀ W va vb, StAt W va t0 → StAt W vb t0 → Calls Try.prog 19 #[va, vb] W fun e w2 => e = .returned (.bool true) ∧ Ext W w2)
    (hps : ∀ W va vb, PuAt W va { Q with why := ty } → PuAt W vb { Q with why := ty } → Calls Try.prog 27 #[va, vb] W fun e w2 => e = .returned (.bool true) ∧ Ext W w2)
    : Calls Try.prog 16 #[sv a1 a2 a3 n1 c1 n2 c2 n3 c3 s.taken s.time s.at_ s.done s.why, .int .u8 x] w fun e w' => e = .returned (.bool true) ∧ Ext w w' := by
  have H0 := Lib.hid h0
  clear h0
  go_enter Try.func16, Try.ntmps16
  go_wp2_with fail
  refine (h1 _ ((Ext.refl w).alloc _)).mono ?_
  rintro e w1 ⟨x1, x2, x3, m1, k1, m2, k2, m3, k3, rfl, A1, E1⟩
  have Y0_1 : Ext w w1 := E1.old
  have Bs_1 := Blk.of E1
  have hw1 := Y0_1.size
  have q1s0 := fun ob => Blk.c (Blk.al Bs_1 ob) 0 (v := .slice a1 n1 c1) rfl
  have q1s1 := fun ob => Blk.c (Blk.al Bs_1 ob) 1 (v := .slice a2 n2 c2) rfl
  have q1s2 := fun ob => Blk.c (Blk.al Bs_1 ob) 2 (v := .int .i64 s.taken) rfl
  have q1s3 := fun ob => Blk.c (Blk.al Bs_1 ob) 3 (v := .slice a3 n3 c3) rfl
  have q1s4 := fun ob => Blk.c (Blk.al Bs_1 ob) 4 (v := .int .i64 s.time) rfl
  have q1s5 := fun ob => Blk.c (Blk.al Bs_1 ob) 5 (v := .int .i64 s.at_) rfl
  have q1s6 := fun ob => Blk.c (Blk.al Bs_1 ob) 6 (v := .int .i64 s.done) rfl
  have q1s7 := fun ob => Blk.c (Blk.al Bs_1 ob) 7 (v := .int .i64 s.why) rfl
  clear E1
  go_wp2_with fail
  refine (h2 _ (Y0_1.alloc _)).mono ?_
  rintro e w2 ⟨y1, y2, y3, q1, l2, q2, l3, q3, rfl, A2, E2⟩
  clear q1s0 q1s1 q1s2 q1s3 q1s4 q1s5 q1s6 q1s7
  have Y1_2 : Ext w1 w2 := E2.old
  have Y0_2 : Ext w w2 := Y0_1.comp Y1_2
  have Bs_2 := Blk.ex (Blk.al Bs_1 (.cells #[.slice x1 m1 k1, .slice x2 m2 k2, .int .i64 t0.taken, .slice x3 m3 k3, .int .i64 t0.time, .int .i64 t0.at_, .int .i64 t0.done, .int .i64 ty] 24)) E2
  have Bt_2 := Blk.of E2
  clear Bs_1 Y0_1
  clear E2
  go_wp2_with fail
  refine (h3 _ _ (A2.ext ((Ext.refl w2).alloc _))).mono ?_
  rintro e w3 ⟨z1, z2, z3, i1, j1, i2, j2, i3, j3, rfl, A3, E3⟩
  have Y2_3 : Ext w2 w3 := E3.old
  have Y0_3 : Ext w w3 := Y0_2.comp Y2_3
  have Y1_3 : Ext w1 w3 := Y1_2.comp Y2_3
  have Bs_3 := Blk.ex (Blk.al Bs_2 (.cells #[.slice y1 128 q1, .slice y2 l2 q2, .int .i64 p.taken, .slice y3 l3 q3, .int .i64 p.clock, .int .i64 p.at_, .int .i64 p.phase, .int .i64 p.order, .int .i64 p.operand, .int .i64 p.other, .int .i64 p.product, .int .i64 p.count, .int .i64 p.done, .int .i64 p.why] 41)) E3
  have Bt_3 := Blk.ex (Blk.al Bt_2 (.cells #[.slice y1 128 q1, .slice y2 l2 q2, .int .i64 p.taken, .slice y3 l3 q3, .int .i64 p.clock, .int .i64 p.at_, .int .i64 p.phase, .int .i64 p.order, .int .i64 p.operand, .int .i64 p.other, .int .i64 p.product, .int .i64 p.count, .int .i64 p.done, .int .i64 p.why] 41)) E3
  have Bp_3 := Blk.of E3
  clear Bs_2 Bt_2 Y0_2 Y1_2
  have htq := Bt_3.lt
  clear E3
  as_aux_lemma =>
  go_wp2_with fail
  refine (h4 _ _ (A3.at_.ext ((Ext.refl w3).alloc _))).mono ?_
  rintro e w4 ⟨g1, g2, g3, o1, r1, o2, r2, o3, r3, rfl, A4, E4⟩
  have Y3_4 : Ext w3 w4 := E4.old
  have Y0_4 : Ext w w4 := Y0_3.comp Y3_4
  have Y1_4 : Ext w1 w4 := Y1_3.comp Y3_4
  have Y2_4 : Ext w2 w4 := Y2_3.comp Y3_4
  have Bs_4 := Blk.ex (Blk.al Bs_3 (.cells #[.slice z1 i1 j1, .slice z2 i2 j2, .int .i64 Q.taken, .slice z3 i3 j3, .int .i64 Q.clock, .int .i64 Q.at_, .int .i64 Q.phase, .int .i64 Q.order, .int .i64 Q.operand, .int .i64 Q.other, .int .i64 Q.product, .int .i64 Q.count, .int .i64 Q.done, .int .i64 Q.why] 41)) E4
  have Bt_4 := Blk.ex (Blk.al Bt_3 (.cells #[.slice z1 i1 j1, .slice z2 i2 j2, .int .i64 Q.taken, .slice z3 i3 j3, .int .i64 Q.clock, .int .i64 Q.at_, .int .i64 Q.phase, .int .i64 Q.order, .int .i64 Q.operand, .int .i64 Q.other, .int .i64 Q.product, .int .i64 Q.count, .int .i64 Q.done, .int .i64 Q.why] 41)) E4
  have Bp_4 := Blk.ex (Blk.al Bp_3 (.cells #[.slice z1 i1 j1, .slice z2 i2 j2, .int .i64 Q.taken, .slice z3 i3 j3, .int .i64 Q.clock, .int .i64 Q.at_, .int .i64 Q.phase, .int .i64 Q.order, .int .i64 Q.operand, .int .i64 Q.other, .int .i64 Q.product, .int .i64 Q.count, .int .i64 Q.done, .int .i64 Q.why] 41)) E4
  have Bq_4 := Blk.of E4
  clear Bs_3 Bt_3 Bp_3 Y0_3 Y1_3 Y2_3
  have hw4 := Y0_4.size
  have htu := Bt_4.lt
  have hqu := Bq_4.lt
  have q4p0 := fun ob => Blk.c (Blk.al Bp_4 ob) 0 (v := .slice y1 128 q1) rfl
  have q4p1 := fun ob => Blk.c (Blk.al Bp_4 ob) 1 (v := .slice y2 l2 q2) rfl
  have q4p2 := fun ob => Blk.c (Blk.al Bp_4 ob) 2 (v := .int .i64 p.taken) rfl
  have q4p3 := fun ob => Blk.c (Blk.al Bp_4 ob) 3 (v := .slice y3 l3 q3) rfl
  have q4p4 := fun ob => Blk.c (Blk.al Bp_4 ob) 4 (v := .int .i64 p.clock) rfl
  have q4p5 := fun ob => Blk.c (Blk.al Bp_4 ob) 5 (v := .int .i64 p.at_) rfl
  have q4p6 := fun ob => Blk.c (Blk.al Bp_4 ob) 6 (v := .int .i64 p.phase) rfl
  have q4p7 := fun ob => Blk.c (Blk.al Bp_4 ob) 7 (v := .int .i64 p.order) rfl
  have q4p8 := fun ob => Blk.c (Blk.al Bp_4 ob) 8 (v := .int .i64 p.operand) rfl
  have q4p9 := fun ob => Blk.c (Blk.al Bp_4 ob) 9 (v := .int .i64 p.other) rfl
  have q4p10 := fun ob => Blk.c (Blk.al Bp_4 ob) 10 (v := .int .i64 p.product) rfl
  have q4p11 := fun ob => Blk.c (Blk.al Bp_4 ob) 11 (v := .int .i64 p.count) rfl
  have q4p12 := fun ob => Blk.c (Blk.al Bp_4 ob) 12 (v := .int .i64 p.done) rfl
  have q4p13 := fun ob => Blk.c (Blk.al Bp_4 ob) 13 (v := .int .i64 p.why) rfl
  clear E4
  as_aux_lemma =>
  go_wp2_with fail
  refine (h5 _ _ (A2.ext (Y2_4.alloc _))).mono ?_
  rintro e w5 ⟨f1, f2, f3, e1, b1, e2, b2, e3, b3, rfl, A5, E5⟩
  clear q4p0 q4p1 q4p2 q4p3 q4p4 q4p5 q4p6 q4p7 q4p8 q4p9 q4p10 q4p11 q4p12 q4p13
  have Y4_5 : Ext w4 w5 := E5.old
  have Y0_5 : Ext w w5 := Y0_4.comp Y4_5
  have Y1_5 : Ext w1 w5 := Y1_4.comp Y4_5
  have Y2_5 : Ext w2 w5 := Y2_4.comp Y4_5
  have Y3_5 : Ext w3 w5 := Y3_4.comp Y4_5
  have Bs_5 := Blk.ex (Blk.al Bs_4 (.cells #[.slice g1 o1 r1, .slice g2 o2 r2, .int .i64 t0.taken, .slice g3 o3 r3, .int .i64 t0.time, .int .i64 t0.at_, .int .i64 t0.done, .int .i64 uy] 24)) E5
  have Bt_5 := Blk.ex (Blk.al Bt_4 (.cells #[.slice g1 o1 r1, .slice g2 o2 r2, .int .i64 t0.taken, .slice g3 o3 r3, .int .i64 t0.time, .int .i64 t0.at_, .int .i64 t0.done, .int .i64 uy] 24)) E5
  have Bp_5 := Blk.ex (Blk.al Bp_4 (.cells #[.slice g1 o1 r1, .slice g2 o2 r2, .int .i64 t0.taken, .slice g3 o3 r3, .int .i64 t0.time, .int .i64 t0.at_, .int .i64 t0.done, .int .i64 uy] 24)) E5
  have Bq_5 := Blk.ex (Blk.al Bq_4 (.cells #[.slice g1 o1 r1, .slice g2 o2 r2, .int .i64 t0.taken, .slice g3 o3 r3, .int .i64 t0.time, .int .i64 t0.at_, .int .i64 t0.done, .int .i64 uy] 24)) E5
  have Bu_5 := Blk.of E5
  clear Bs_4 Bt_4 Bp_4 Bq_4 Y0_4 Y1_4 Y2_4 Y3_4
  have hqn := Bq_5.lt
  have hun := Bu_5.lt
  clear E5
  clear Bs_5 Bp_5
  have q5t7 := fun ob => Blk.c (Blk.al Bt_5 ob) 7 (v := .int .i64 ty) rfl
  as_aux_lemma =>
  go_upto_region 14 with fail
  clear q5t7
  have bN := Blk.nw w5 #[.slice f1 e1 b1, .slice f2 e2 b2, .int .i64 Q.taken, .slice f3 e3 b3, .int .i64 Q.clock, .int .i64 Q.at_, .int .i64 Q.phase, .int .i64 Q.order, .int .i64 Q.operand, .int .i64 Q.other, .int .i64 Q.product, .int .i64 Q.count, .int .i64 Q.done, .int .i64 ty] 41
  have bt := Blk.al Bt_5 (.cells #[.slice f1 e1 b1, .slice f2 e2 b2, .int .i64 Q.taken, .slice f3 e3 b3, .int .i64 Q.clock, .int .i64 Q.at_, .int .i64 Q.phase, .int .i64 Q.order, .int .i64 Q.operand, .int .i64 Q.other, .int .i64 Q.product, .int .i64 Q.count, .int .i64 Q.done, .int .i64 ty] 41)
  have bq := Blk.al Bq_5 (.cells #[.slice f1 e1 b1, .slice f2 e2 b2, .int .i64 Q.taken, .slice f3 e3 b3, .int .i64 Q.clock, .int .i64 Q.at_, .int .i64 Q.phase, .int .i64 Q.order, .int .i64 Q.operand, .int .i64 Q.other, .int .i64 Q.product, .int .i64 Q.count, .int .i64 Q.done, .int .i64 ty] 41)
  have bu := Blk.al Bu_5 (.cells #[.slice f1 e1 b1, .slice f2 e2 b2, .int .i64 Q.taken, .slice f3 e3 b3, .int .i64 Q.clock, .int .i64 Q.at_, .int .i64 Q.phase, .int .i64 Q.order, .int .i64 Q.operand, .int .i64 Q.other, .int .i64 Q.product, .int .i64 Q.count, .int .i64 Q.done, .int .i64 ty] 41)
  have X : Ext w5 (w5.alloc (.cells #[.slice f1 e1 b1, .slice f2 e2 b2, .int .i64 Q.taken, .slice f3 e3 b3, .int .i64 Q.clock, .int .i64 Q.at_, .int .i64 Q.phase, .int .i64 Q.order, .int .i64 Q.operand, .int .i64 Q.other, .int .i64 Q.product, .int .i64 Q.count, .int .i64 Q.done, .int .i64 ty] 41)) := (Ext.refl _).alloc _
  obtain ⟨V, hV⟩ : ∃ V : World, V = w5.alloc (.cells #[.slice f1 e1 b1, .slice f2 e2 b2, .int .i64 Q.taken, .slice f3 e3 b3, .int .i64 Q.clock, .int .i64 Q.at_, .int .i64 Q.phase, .int .i64 Q.order, .int .i64 Q.operand, .int .i64 Q.other, .int .i64 Q.product, .int .i64 Q.count, .int .i64 Q.done, .int .i64 ty] 41) := ⟨_, rfl⟩
  rw [← hV] at bN bt bq bu X
  rw [← hV]
  clear hV
  have hnv : w5.heap.size < V.heap.size := bN.lt
  have ntu : w1.heap.size ≠ w4.heap.size := by omega
  have nqu : w3.heap.size ≠ w4.heap.size := by have := hqu; omega
  have nqt : w3.heap.size ≠ w1.heap.size := by have := htq; omega
  have nnu : w5.heap.size ≠ w4.heap.size := by have := hun; omega
  have nnt : w5.heap.size ≠ w1.heap.size := by have := hun; omega
  have u7 := bu.c 7 (v := .int .i64 uy) rfl
  have uf := bu.f 7
  have bt1 := bt.ot (i := 7) (v := .int .i64 0) ntu
  have t7 := bt1.c 7 (v := .int .i64 ty) rfl
  have tf := bt1.f 7
  go_upto_region 15 with fail
  clear u7 uf t7 tf
  have Bt_6 : Blk ((V.setCell ⟨w4.heap.size, 7, none⟩ (.int .i64 0)).setCell ⟨w1.heap.size, 7, none⟩ (.int .i64 0)) (w1.heap.size) #[.slice x1 m1 k1, .slice x2 m2 k2, .int .i64 t0.taken, .slice x3 m3 k3, .int .i64 t0.time, .int .i64 t0.at_, .int .i64 t0.done, .int .i64 0] 24 := bt1.st 7 _
  have Bu_6 : Blk ((V.setCell ⟨w4.heap.size, 7, none⟩ (.int .i64 0)).setCell ⟨w1.heap.size, 7, none⟩ (.int .i64 0)) (w4.heap.size) #[.slice g1 o1 r1, .slice g2 o2 r2, .int .i64 t0.taken, .slice g3 o3 r3, .int .i64 t0.time, .int .i64 t0.at_, .int .i64 t0.done, .int .i64 0] 24 := (bu.st 7 _).ot (Ne.symm ntu)
  have Bq_6 : Blk ((V.setCell ⟨w4.heap.size, 7, none⟩ (.int .i64 0)).setCell ⟨w1.heap.size, 7, none⟩ (.int .i64 0)) (w3.heap.size) #[.slice z1 i1 j1, .slice z2 i2 j2, .int .i64 Q.taken, .slice z3 i3 j3, .int .i64 Q.clock, .int .i64 Q.at_, .int .i64 Q.phase, .int .i64 Q.order, .int .i64 Q.operand, .int .i64 Q.other, .int .i64 Q.product, .int .i64 Q.count, .int .i64 Q.done, .int .i64 Q.why] 41 := (bq.ot nqu).ot nqt
  have Bn_6 : Blk ((V.setCell ⟨w4.heap.size, 7, none⟩ (.int .i64 0)).setCell ⟨w1.heap.size, 7, none⟩ (.int .i64 0)) (w5.heap.size) #[.slice f1 e1 b1, .slice f2 e2 b2, .int .i64 Q.taken, .slice f3 e3 b3, .int .i64 Q.clock, .int .i64 Q.at_, .int .i64 Q.phase, .int .i64 Q.order, .int .i64 Q.operand, .int .i64 Q.other, .int .i64 Q.product, .int .i64 Q.count, .int .i64 Q.done, .int .i64 ty] 41 := (bN.ot nnu).ot nnt
  have D4 := ((A4.ext (Y4_5.comp X)).set bu (by decide) 7 (.int .i64 0)).set bt1 (by decide) 7 (.int .i64 0)
  have D5 := ((A5.ext X).set bu (by decide) 7 (.int .i64 0)).set bt1 (by decide) 7 (.int .i64 0)
  have D3 := ((A3.ext (Y3_5.comp X)).set bu (by decide) 7 (.int .i64 0)).set bt1 (by decide) 7 (.int .i64 0)
  have D1 : Ext w1 ((V.setCell ⟨w4.heap.size, 7, none⟩ (.int .i64 0)).setCell ⟨w1.heap.size, 7, none⟩ (.int .i64 0)) := ((Y1_5.comp X).setCell (p := ⟨w4.heap.size, 7, none⟩) (by show w1.heap.size ≤ w4.heap.size; omega) _).setCell (p := ⟨w1.heap.size, 7, none⟩) (by show w1.heap.size ≤ w1.heap.size; omega) _
  have Y0_6 : Ext w ((V.setCell ⟨w4.heap.size, 7, none⟩ (.int .i64 0)).setCell ⟨w1.heap.size, 7, none⟩ (.int .i64 0)) := ((Y0_5.comp X).setCell (p := ⟨w4.heap.size, 7, none⟩) (by show w.heap.size ≤ w4.heap.size; omega) _).setCell (p := ⟨w1.heap.size, 7, none⟩) (by show w.heap.size ≤ w1.heap.size; omega) _
  obtain ⟨w6, hw6⟩ : ∃ w6 : World, w6 = ((V.setCell ⟨w4.heap.size, 7, none⟩ (.int .i64 0)).setCell ⟨w1.heap.size, 7, none⟩ (.int .i64 0)) := ⟨_, rfl⟩
  rw [← hw6] at Bt_6 Bu_6 Bq_6 Bn_6 D1 D3 D4 D5 Y0_6
  rw [← hw6]
  clear hw6 bt bu bq bN bt1 X
  have q6t0 := Blk.c Bt_6 0 (v := .slice x1 m1 k1) rfl
  have q6t1 := Blk.c Bt_6 1 (v := .slice x2 m2 k2) rfl
  have q6t2 := Blk.c Bt_6 2 (v := .int .i64 t0.taken) rfl
  have q6t3 := Blk.c Bt_6 3 (v := .slice x3 m3 k3) rfl
  have q6t4 := Blk.c Bt_6 4 (v := .int .i64 t0.time) rfl
  have q6t5 := Blk.c Bt_6 5 (v := .int .i64 t0.at_) rfl
  have q6t6 := Blk.c Bt_6 6 (v := .int .i64 t0.done) rfl
  have q6t7 := Blk.c Bt_6 7 (v := .int .i64 0) rfl
  have q6u0 := Blk.c Bu_6 0 (v := .slice g1 o1 r1) rfl
  have q6u1 := Blk.c Bu_6 1 (v := .slice g2 o2 r2) rfl
  have q6u2 := Blk.c Bu_6 2 (v := .int .i64 t0.taken) rfl
  have q6u3 := Blk.c Bu_6 3 (v := .slice g3 o3 r3) rfl
  have q6u4 := Blk.c Bu_6 4 (v := .int .i64 t0.time) rfl
  have q6u5 := Blk.c Bu_6 5 (v := .int .i64 t0.at_) rfl
  have q6u6 := Blk.c Bu_6 6 (v := .int .i64 t0.done) rfl
  have q6u7 := Blk.c Bu_6 7 (v := .int .i64 0) rfl
  as_aux_lemma =>
  go_wp2_with fail
  refine (hss _ _ _ ((A1.ext D1).swapW H0.out) (D4.at_.swapW H0.out)).mono ?_
  rintro e w7 ⟨rfl, E7⟩
  clear q6t0 q6t1 q6t2 q6t3 q6t4 q6t5 q6t6 q6t7 q6u0 q6u1 q6u2 q6u3 q6u4 q6u5 q6u6 q6u7
  have Y6_7 : Ext w6 w7 := E7
  have Y0_7 : Ext w w7 := Y0_6.comp Y6_7
  have Bt_7 := Blk.ex Bt_6 E7
  have Bu_7 := Blk.ex Bu_6 E7
  have Bq_7 := Blk.ex Bq_6 E7
  have Bn_7 := Blk.ex Bn_6 E7
  clear Bt_6 Bu_6 Bq_6 Bn_6 Y0_6
  clear E7
  clear Bt_7 Bu_7
  have c13 := Bq_7.c 13 (v := .int .i64 Q.why) rfl
  have f13 := Bq_7.f 13
  go_upto_region 20 with fail
  clear c13 f13
  have Bq_8 : Blk (w7.setCell ⟨w3.heap.size, 13, none⟩ (.int .i64 ty)) (w3.heap.size) #[.slice z1 i1 j1, .slice z2 i2 j2, .int .i64 Q.taken, .slice z3 i3 j3, .int .i64 Q.clock, .int .i64 Q.at_, .int .i64 Q.phase, .int .i64 Q.order, .int .i64 Q.operand, .int .i64 Q.other, .int .i64 Q.product, .int .i64 Q.count, .int .i64 Q.done, .int .i64 ty] 41 := Bq_7.st 13 _
  have Bn_8 : Blk (w7.setCell ⟨w3.heap.size, 13, none⟩ (.int .i64 ty)) (w5.heap.size) #[.slice f1 e1 b1, .slice f2 e2 b2, .int .i64 Q.taken, .slice f3 e3 b3, .int .i64 Q.clock, .int .i64 Q.at_, .int .i64 Q.phase, .int .i64 Q.order, .int .i64 Q.operand, .int .i64 Q.other, .int .i64 Q.product, .int .i64 Q.count, .int .i64 Q.done, .int .i64 ty] 41 := Bn_7.ot (by omega)
  have C5 := (D5.ext Y6_7).set Bq_7 (by decide) 13 (.int .i64 ty)
  have C3 := (D3.ext Y6_7).set Bq_7 (by decide) 13 (.int .i64 ty)
  have Y0_8 : Ext w (w7.setCell ⟨w3.heap.size, 13, none⟩ (.int .i64 ty)) := Y0_7.setCell (p := ⟨w3.heap.size, 13, none⟩) (by show w.heap.size ≤ w3.heap.size; omega) _
  obtain ⟨w8, hw8⟩ : ∃ w8 : World, w8 = (w7.setCell ⟨w3.heap.size, 13, none⟩ (.int .i64 ty)) := ⟨_, rfl⟩
  rw [← hw8] at Bq_8 Bn_8 C3 C5 Y0_8
  rw [← hw8]
  clear hw8
  have q8q0 := Blk.c Bq_8 0 (v := .slice z1 i1 j1) rfl
  have q8q1 := Blk.c Bq_8 1 (v := .slice z2 i2 j2) rfl
  have q8q2 := Blk.c Bq_8 2 (v := .int .i64 Q.taken) rfl
  have q8q3 := Blk.c Bq_8 3 (v := .slice z3 i3 j3) rfl
  have q8q4 := Blk.c Bq_8 4 (v := .int .i64 Q.clock) rfl
  have q8q5 := Blk.c Bq_8 5 (v := .int .i64 Q.at_) rfl
  have q8q6 := Blk.c Bq_8 6 (v := .int .i64 Q.phase) rfl
  have q8q7 := Blk.c Bq_8 7 (v := .int .i64 Q.order) rfl
  have q8q8 := Blk.c Bq_8 8 (v := .int .i64 Q.operand) rfl
  have q8q9 := Blk.c Bq_8 9 (v := .int .i64 Q.other) rfl
  have q8q10 := Blk.c Bq_8 10 (v := .int .i64 Q.product) rfl
  have q8q11 := Blk.c Bq_8 11 (v := .int .i64 Q.count) rfl
  have q8q12 := Blk.c Bq_8 12 (v := .int .i64 Q.done) rfl
  have q8q13 := Blk.c Bq_8 13 (v := .int .i64 ty) rfl
  have q8n0 := Blk.c Bn_8 0 (v := .slice f1 e1 b1) rfl
  have q8n1 := Blk.c Bn_8 1 (v := .slice f2 e2 b2) rfl
  have q8n2 := Blk.c Bn_8 2 (v := .int .i64 Q.taken) rfl
  have q8n3 := Blk.c Bn_8 3 (v := .slice f3 e3 b3) rfl
  have q8n4 := Blk.c Bn_8 4 (v := .int .i64 Q.clock) rfl
  have q8n5 := Blk.c Bn_8 5 (v := .int .i64 Q.at_) rfl
  have q8n6 := Blk.c Bn_8 6 (v := .int .i64 Q.phase) rfl
  have q8n7 := Blk.c Bn_8 7 (v := .int .i64 Q.order) rfl
  have q8n8 := Blk.c Bn_8 8 (v := .int .i64 Q.operand) rfl
  have q8n9 := Blk.c Bn_8 9 (v := .int .i64 Q.other) rfl
  have q8n10 := Blk.c Bn_8 10 (v := .int .i64 Q.product) rfl
  have q8n11 := Blk.c Bn_8 11 (v := .int .i64 Q.count) rfl
  have q8n12 := Blk.c Bn_8 12 (v := .int .i64 Q.done) rfl
  have q8n13 := Blk.c Bn_8 13 (v := .int .i64 ty) rfl
  as_aux_lemma =>
  go_wp2_with fail
  refine (hps _ _ _ C5.at_ (C3.at_.swapW ty)).mono ?_
  rintro e w9 ⟨rfl, E9⟩
  clear q8q0 q8q1 q8q2 q8q3 q8q4 q8q5 q8q6 q8q7 q8q8 q8q9 q8q10 q8q11 q8q12 q8q13 q8n0 q8n1 q8n2 q8n3 q8n4 q8n5 q8n6 q8n7 q8n8 q8n9 q8n10 q8n11 q8n12 q8n13
  have Y8_9 : Ext w8 w9 := E9
  have Y0_9 : Ext w w9 := Y0_8.comp Y8_9
  have Bq_9 := Blk.ex Bq_8 E9
  have Bn_9 := Blk.ex Bn_8 E9
  clear Bq_8 Bn_8 Y0_8
  clear E9
  go_wp2_with (go_at_call 30; refine (awake5_any _).mono ?_; rintro e w10 ⟨rfl, E10⟩)
  have Y9_10 : Ext w9 w10 := E10
  have Y0_10 : Ext w w10 := Y0_9.comp Y9_10
  have Y8_10 : Ext w8 w10 := Y8_9.comp Y9_10
  have Bq_10 := Blk.ex Bq_9 E10
  have Bn_10 := Blk.ex Bn_9 E10
  clear Bq_9 Bn_9 Y0_9 Y8_9
  clear E10
  go_ret
  exact ⟨rfl, Y0_10⟩
end Go.Proofs.Ytjfggepgjpdebaa
