import Derived.Deep.QuietTactic
import Derived.Outline
import Derived.Test.YtjfggepgjpdebaaML0
import Derived.Test.YtjfggepgjpdebaaMX2
set_option linter.unusedVariables false
set_option linter.unusedSimpArgs false
/- Contract: PulseWaits returns true. -/
namespace Go.Proofs.Ytjfggepgjpdebaa
open Go.RowKit Go.Q
theorem PuAt.swap {W : World} {y1 y2 y3 : Option Addr} {r1 q2 r2 q3 r3 : Nat} {s : Pu} {cl p ct : Int} (h : PuAt W (psv y1 y2 y3 128 r1 q2 r2 q3 r3 { s with clock := cl, product := p, count := ct }) { s with clock := cl, product := p, count := ct }) : PuAt W (psv y1 y2 y3 128 r1 q2 r2 q3 r3 s) s := by
  obtain ⟨z1, z2, z3, d1, d2, d3, hv, i1, i2, i3⟩ := h
  simp only [psv, Value.agg.injEq, Array.mk.injEq, List.cons.injEq, Value.slice.injEq, and_true, true_and] at hv
  obtain ⟨⟨rfl, e1, rfl⟩, ⟨rfl, e2, rfl⟩, rfl, e3, rfl⟩ := hv
  exact ⟨_, _, _, _, _, _, by rw [e1, e2, e3], i1, i2, i3⟩
set_option maxRecDepth 100000 in
set_option maxHeartbeats 8000000 in
theorem waits_bad (a1 a2 a3 : Option Addr) (n1 c1 n2 c2 n3 c3 : Nat) (s : Pu) (x er : Int) (w : World) (her : (er != 0) = true)
    (hu : ∀ W, Ext w W → Calls Try.prog 28 #[psv a1 a2 a3 n1 c1 n2 c2 n3 c3 s] W fun e w' => e = .returned (v2i (0, er)) ∧ Ext W w') :
    Calls Try.prog 11 #[psv a1 a2 a3 n1 c1 n2 c2 n3 c3 s, .int .u8 x] w fun e w' => e = .returned (.bool true) ∧ Ext w w' := by
  go_enter Try.func11, Try.ntmps11
  go_wp2_with fail
  refine (hu _ ((Ext.refl w).alloc _)).mono ?_
  rintro e w1 ⟨rfl, E1⟩
  have Y0_1 : Ext w w1 := E1.old
  have Bs_1 := Blk.of E1
  clear E1
  go_wp2_with (go_at_call 30; refine (awake5_any _).mono ?_; rintro e w2 ⟨rfl, E2⟩)
  have Y1_2 : Ext w1 w2 := E2
  have Y0_2 : Ext w w2 := Y0_1.comp Y1_2
  have Bs_2 := Blk.ex Bs_1 E2
  clear Bs_1 Y0_1
  clear E2
  go_ret
  exact ⟨rfl, Y0_2⟩
set_option maxRecDepth 100000 in
set_option maxHeartbeats 8000000 in
theorem waits_good (a1 a2 a3 : Option Addr) (n1 c1 n2 c2 n3 c3 : Nat) (s l : Pu) (x U p ct : Int) (w : World) (hx : 0 ≤ x ∧ x ≤ 255) (hU : 1 ≤ U ∧ U ≤ 16) (hcl : 0 ≤ s.clock ∧ s.clock ≤ 1000000000) (hl : (l.phase == s.phase) = false ∨ ((l.phase == s.phase) = true ∧ (l.why == 0) = false))
    (hu : ∀ W, Ext w W → Calls Try.prog 28 #[psv a1 a2 a3 n1 c1 n2 c2 n3 c3 s] W fun e w' => e = .returned (v2i (U, 0)) ∧ Ext W w')
    (h1 : ∀ W, Ext w W → Calls Try.prog 25 #[psv a1 a2 a3 n1 c1 n2 c2 n3 c3 s, .int .i64 U] W (PuR l W))
    (h2 : ∀ W, Ext w W → Calls Try.prog 25 #[psv a1 a2 a3 n1 c1 n2 c2 n3 c3 s, .int .i64 (x % U)] W (PuR { s with clock := s.clock + x % U, product := p, count := ct } W))
    (hps : ∀ W va vb, PuAt W va s → PuAt W vb s → Calls Try.prog 27 #[va, vb] W fun e w2 => e = .returned (.bool true) ∧ Ext W w2)
    (hA : PuAt w (psv a1 a2 a3 n1 c1 n2 c2 n3 c3 s) s) (hn : s.store.length = 128 ∧ (s.tape.length = n2 ∧ s.printed.length = n3)) :
    Calls Try.prog 11 #[psv a1 a2 a3 n1 c1 n2 c2 n3 c3 s, .int .u8 x] w fun e w' => e = .returned (.bool true) ∧ Ext w w' := by
  have HA := Lib.hid hA
  have HN := Lib.hid hn
  have hx0 := hx.1
  have hU1 := hU.1
  have hm0 : 0 ≤ x % U := Int.emod_nonneg _ (by omega)
  have hm1 : x % U < U := Int.emod_lt_of_pos _ (by omega)
  clear hA hn
  rcases hl with hl | ⟨hl, hl2⟩
  all_goals
    go_enter Try.func11, Try.ntmps11
    go_wp2_with fail
    refine (hu _ ((Ext.refl w).alloc _)).mono ?_
    rintro e w1 ⟨rfl, E1⟩
    have Y0_1 : Ext w w1 := E1.old
    have Bs_1 := Blk.of E1
    have q1s0 := Blk.c Bs_1 0 (v := .slice a1 n1 c1) rfl
    have q1s1 := Blk.c Bs_1 1 (v := .slice a2 n2 c2) rfl
    have q1s2 := Blk.c Bs_1 2 (v := .int .i64 s.taken) rfl
    have q1s3 := Blk.c Bs_1 3 (v := .slice a3 n3 c3) rfl
    have q1s4 := Blk.c Bs_1 4 (v := .int .i64 s.clock) rfl
    have q1s5 := Blk.c Bs_1 5 (v := .int .i64 s.at_) rfl
    have q1s6 := Blk.c Bs_1 6 (v := .int .i64 s.phase) rfl
    have q1s7 := Blk.c Bs_1 7 (v := .int .i64 s.order) rfl
    have q1s8 := Blk.c Bs_1 8 (v := .int .i64 s.operand) rfl
    have q1s9 := Blk.c Bs_1 9 (v := .int .i64 s.other) rfl
    have q1s10 := Blk.c Bs_1 10 (v := .int .i64 s.product) rfl
    have q1s11 := Blk.c Bs_1 11 (v := .int .i64 s.count) rfl
    have q1s12 := Blk.c Bs_1 12 (v := .int .i64 s.done) rfl
    have q1s13 := Blk.c Bs_1 13 (v := .int .i64 s.why) rfl
    clear E1
    have hlt0 : w.heap.size < w1.heap.size := Bs_1.lt
    go_wp2_with fail
    refine (h1 _ Y0_1).mono ?_
    rintro e w2 ⟨x1, x2, x3, k1, m2, k2, m3, k3, rfl, A1, E2⟩
    clear q1s0 q1s1 q1s2 q1s3 q1s4 q1s5 q1s6 q1s7 q1s8 q1s9 q1s10 q1s11 q1s12 q1s13
    have Y1_2 : Ext w1 w2 := E2
    have Y0_2 : Ext w w2 := Y0_1.comp Y1_2
    have Bs_2 := Blk.ex Bs_1 E2
    clear Bs_1 Y0_1
    have q2s0 := fun ob => Blk.c (Blk.al Bs_2 ob) 0 (v := .slice a1 n1 c1) rfl
    have q2s1 := fun ob => Blk.c (Blk.al Bs_2 ob) 1 (v := .slice a2 n2 c2) rfl
    have q2s2 := fun ob => Blk.c (Blk.al Bs_2 ob) 2 (v := .int .i64 s.taken) rfl
    have q2s3 := fun ob => Blk.c (Blk.al Bs_2 ob) 3 (v := .slice a3 n3 c3) rfl
    have q2s4 := fun ob => Blk.c (Blk.al Bs_2 ob) 4 (v := .int .i64 s.clock) rfl
    have q2s5 := fun ob => Blk.c (Blk.al Bs_2 ob) 5 (v := .int .i64 s.at_) rfl
    have q2s6 := fun ob => Blk.c (Blk.al Bs_2 ob) 6 (v := .int .i64 s.phase) rfl
    have q2s7 := fun ob => Blk.c (Blk.al Bs_2 ob) 7 (v := .int .i64 s.order) rfl
    have q2s8 := fun ob => Blk.c (Blk.al Bs_2 ob) 8 (v := .int .i64 s.operand) rfl
    have q2s9 := fun ob => Blk.c (Blk.al Bs_2 ob) 9 (v := .int .i64 s.other) rfl
    have q2s10 := fun ob => Blk.c (Blk.al Bs_2 ob) 10 (v := .int .i64 s.product) rfl
    have q2s11 := fun ob => Blk.c (Blk.al Bs_2 ob) 11 (v := .int .i64 s.count) rfl
    have q2s12 := fun ob => Blk.c (Blk.al Bs_2 ob) 12 (v := .int .i64 s.done) rfl
    have q2s13 := fun ob => Blk.c (Blk.al Bs_2 ob) 13 (v := .int .i64 s.why) rfl
    clear E2
    go_wp2_with fail
    refine (h2 _ (Y0_2.alloc _)).mono ?_
    rintro e w3 ⟨y1, y2, y3, r1, q2, r2, q3, r3, rfl, A2, E3⟩
    clear q2s0 q2s1 q2s2 q2s3 q2s4 q2s5 q2s6 q2s7 q2s8 q2s9 q2s10 q2s11 q2s12 q2s13
    have Y2_3 : Ext w2 w3 := E3.old
    have Y0_3 : Ext w w3 := Y0_2.comp Y2_3
    have Y1_3 : Ext w1 w3 := Y1_2.comp Y2_3
    have Bs_3 := Blk.ex (Blk.al Bs_2 (.cells #[.slice x1 128 k1, .slice x2 m2 k2, .int .i64 l.taken, .slice x3 m3 k3, .int .i64 l.clock, .int .i64 l.at_, .int .i64 l.phase, .int .i64 l.order, .int .i64 l.operand, .int .i64 l.other, .int .i64 l.product, .int .i64 l.count, .int .i64 l.done, .int .i64 l.why] 41)) E3
    have Bl_3 := Blk.of E3
    clear Bs_2 Y0_2 Y1_2
    have q3s0 := fun ob => Blk.c (Blk.al Bs_3 ob) 0 (v := .slice a1 n1 c1) rfl
    have q3s1 := fun ob => Blk.c (Blk.al Bs_3 ob) 1 (v := .slice a2 n2 c2) rfl
    have q3s2 := fun ob => Blk.c (Blk.al Bs_3 ob) 2 (v := .int .i64 s.taken) rfl
    have q3s3 := fun ob => Blk.c (Blk.al Bs_3 ob) 3 (v := .slice a3 n3 c3) rfl
    have q3s4 := fun ob => Blk.c (Blk.al Bs_3 ob) 4 (v := .int .i64 s.clock) rfl
    have q3s5 := fun ob => Blk.c (Blk.al Bs_3 ob) 5 (v := .int .i64 s.at_) rfl
    have q3s6 := fun ob => Blk.c (Blk.al Bs_3 ob) 6 (v := .int .i64 s.phase) rfl
    have q3s7 := fun ob => Blk.c (Blk.al Bs_3 ob) 7 (v := .int .i64 s.order) rfl
    have q3s8 := fun ob => Blk.c (Blk.al Bs_3 ob) 8 (v := .int .i64 s.operand) rfl
    have q3s9 := fun ob => Blk.c (Blk.al Bs_3 ob) 9 (v := .int .i64 s.other) rfl
    have q3s10 := fun ob => Blk.c (Blk.al Bs_3 ob) 10 (v := .int .i64 s.product) rfl
    have q3s11 := fun ob => Blk.c (Blk.al Bs_3 ob) 11 (v := .int .i64 s.count) rfl
    have q3s12 := fun ob => Blk.c (Blk.al Bs_3 ob) 12 (v := .int .i64 s.done) rfl
    have q3s13 := fun ob => Blk.c (Blk.al Bs_3 ob) 13 (v := .int .i64 s.why) rfl
    clear E3
    clear Bl_3
    go_wp2_with fail
    clear q3s0 q3s1 q3s2 q3s3 q3s4 q3s5 q3s6 q3s7 q3s8 q3s9 q3s10 q3s11 q3s12 q3s13
    have bT := Blk.nw w3 #[.slice y1 128 r1, .slice y2 q2 r2, .int .i64 s.taken, .slice y3 q3 r3, .int .i64 (s.clock + x % U), .int .i64 s.at_, .int .i64 s.phase, .int .i64 s.order, .int .i64 s.operand, .int .i64 s.other, .int .i64 p, .int .i64 ct, .int .i64 s.done, .int .i64 s.why] 41
    have bS := Blk.al Bs_3 (.cells #[.slice y1 128 r1, .slice y2 q2 r2, .int .i64 s.taken, .slice y3 q3 r3, .int .i64 (s.clock + x % U), .int .i64 s.at_, .int .i64 s.phase, .int .i64 s.order, .int .i64 s.operand, .int .i64 s.other, .int .i64 p, .int .i64 ct, .int .i64 s.done, .int .i64 s.why] 41)
    have X4 : Ext w3 (w3.alloc (.cells #[.slice y1 128 r1, .slice y2 q2 r2, .int .i64 s.taken, .slice y3 q3 r3, .int .i64 (s.clock + x % U), .int .i64 s.at_, .int .i64 s.phase, .int .i64 s.order, .int .i64 s.operand, .int .i64 s.other, .int .i64 p, .int .i64 ct, .int .i64 s.done, .int .i64 s.why] 41)) := (Ext.refl _).alloc _
    clear Bs_3
    obtain ⟨W4, hW4⟩ : ∃ W4 : World, W4 = w3.alloc (.cells #[.slice y1 128 r1, .slice y2 q2 r2, .int .i64 s.taken, .slice y3 q3 r3, .int .i64 (s.clock + x % U), .int .i64 s.at_, .int .i64 s.phase, .int .i64 s.order, .int .i64 s.operand, .int .i64 s.other, .int .i64 p, .int .i64 ct, .int .i64 s.done, .int .i64 s.why] 41) := ⟨_, rfl⟩
    rw [← hW4] at bT bS X4
    rw [← hW4]
    clear hW4
    have g4 := bS.c 4 (v := .int .i64 s.clock) rfl
    have t4 := bT.c 4 (v := .int .i64 (s.clock + x % U)) rfl
    have f4 := bT.f 4
    have g10 := bS.c 10 (v := .int .i64 s.product) rfl
    have t10 := bT.c 10 (v := .int .i64 p) rfl
    have f10 := bT.f 10
    have g11 := bS.c 11 (v := .int .i64 s.count) rfl
    have t11 := bT.c 11 (v := .int .i64 ct) rfl
    have f11 := bT.f 11
    go_region
    clear g4 t4 f4 g10 t10 f10 g11 t11 f11
    have hne : w.heap.size ≠ w3.heap.size := by have := bS.lt; have := Y0_3.size; have := Y1_3.size; have := hlt0; omega
    have Bs_4 : Blk (((W4.setCell ⟨w3.heap.size, 4, none⟩ (.int .i64 s.clock)).setCell ⟨w3.heap.size, 10, none⟩ (.int .i64 s.product)).setCell ⟨w3.heap.size, 11, none⟩ (.int .i64 s.count)).drew w.heap.size #[.slice a1 n1 c1, .slice a2 n2 c2, .int .i64 s.taken, .slice a3 n3 c3, .int .i64 s.clock, .int .i64 s.at_, .int .i64 s.phase, .int .i64 s.order, .int .i64 s.operand, .int .i64 s.other, .int .i64 s.product, .int .i64 s.count, .int .i64 s.done, .int .i64 s.why] 41 := (((bS.ot hne).ot hne).ot hne).dr
    have Bt_4 : Blk (((W4.setCell ⟨w3.heap.size, 4, none⟩ (.int .i64 s.clock)).setCell ⟨w3.heap.size, 10, none⟩ (.int .i64 s.product)).setCell ⟨w3.heap.size, 11, none⟩ (.int .i64 s.count)).drew w3.heap.size #[.slice y1 128 r1, .slice y2 q2 r2, .int .i64 s.taken, .slice y3 q3 r3, .int .i64 s.clock, .int .i64 s.at_, .int .i64 s.phase, .int .i64 s.order, .int .i64 s.operand, .int .i64 s.other, .int .i64 s.product, .int .i64 s.count, .int .i64 s.done, .int .i64 s.why] 41 := (((bT.st 4 _).st 10 _).st 11 _).dr
    have X5 : Ext w3 (((W4.setCell ⟨w3.heap.size, 4, none⟩ (.int .i64 s.clock)).setCell ⟨w3.heap.size, 10, none⟩ (.int .i64 s.product)).setCell ⟨w3.heap.size, 11, none⟩ (.int .i64 s.count)).drew := (((X4.setCell (p := ⟨w3.heap.size, 4, none⟩) (Nat.le_refl _) _).setCell (p := ⟨w3.heap.size, 10, none⟩) (Nat.le_refl _) _).setCell (p := ⟨w3.heap.size, 11, none⟩) (Nat.le_refl _) _).drew
    obtain ⟨w4, hw4⟩ : ∃ w4 : World, w4 = (((W4.setCell ⟨w3.heap.size, 4, none⟩ (.int .i64 s.clock)).setCell ⟨w3.heap.size, 10, none⟩ (.int .i64 s.product)).setCell ⟨w3.heap.size, 11, none⟩ (.int .i64 s.count)).drew := ⟨_, rfl⟩
    rw [← hw4] at Bs_4 Bt_4 X5
    rw [← hw4]
    clear hw4 bT bS X4
    have Y0_4 : Ext w w4 := Y0_3.comp X5
    have A3 := A2.swap.ext X5
    have q4s0 := Blk.c Bs_4 0 (v := .slice a1 n1 c1) rfl
    have q4s1 := Blk.c Bs_4 1 (v := .slice a2 n2 c2) rfl
    have q4s2 := Blk.c Bs_4 2 (v := .int .i64 s.taken) rfl
    have q4s3 := Blk.c Bs_4 3 (v := .slice a3 n3 c3) rfl
    have q4s4 := Blk.c Bs_4 4 (v := .int .i64 s.clock) rfl
    have q4s5 := Blk.c Bs_4 5 (v := .int .i64 s.at_) rfl
    have q4s6 := Blk.c Bs_4 6 (v := .int .i64 s.phase) rfl
    have q4s7 := Blk.c Bs_4 7 (v := .int .i64 s.order) rfl
    have q4s8 := Blk.c Bs_4 8 (v := .int .i64 s.operand) rfl
    have q4s9 := Blk.c Bs_4 9 (v := .int .i64 s.other) rfl
    have q4s10 := Blk.c Bs_4 10 (v := .int .i64 s.product) rfl
    have q4s11 := Blk.c Bs_4 11 (v := .int .i64 s.count) rfl
    have q4s12 := Blk.c Bs_4 12 (v := .int .i64 s.done) rfl
    have q4s13 := Blk.c Bs_4 13 (v := .int .i64 s.why) rfl
    have q4t0 := Blk.c Bt_4 0 (v := .slice y1 128 r1) rfl
    have q4t1 := Blk.c Bt_4 1 (v := .slice y2 q2 r2) rfl
    have q4t2 := Blk.c Bt_4 2 (v := .int .i64 s.taken) rfl
    have q4t3 := Blk.c Bt_4 3 (v := .slice y3 q3 r3) rfl
    have q4t4 := Blk.c Bt_4 4 (v := .int .i64 s.clock) rfl
    have q4t5 := Blk.c Bt_4 5 (v := .int .i64 s.at_) rfl
    have q4t6 := Blk.c Bt_4 6 (v := .int .i64 s.phase) rfl
    have q4t7 := Blk.c Bt_4 7 (v := .int .i64 s.order) rfl
    have q4t8 := Blk.c Bt_4 8 (v := .int .i64 s.operand) rfl
    have q4t9 := Blk.c Bt_4 9 (v := .int .i64 s.other) rfl
    have q4t10 := Blk.c Bt_4 10 (v := .int .i64 s.product) rfl
    have q4t11 := Blk.c Bt_4 11 (v := .int .i64 s.count) rfl
    have q4t12 := Blk.c Bt_4 12 (v := .int .i64 s.done) rfl
    have q4t13 := Blk.c Bt_4 13 (v := .int .i64 s.why) rfl
    go_wp2_with fail
    refine (hps _ _ _ (HA.out.ext Y0_4) A3).mono ?_
    rintro e w5 ⟨rfl, E5⟩
    clear q4s0 q4s1 q4s2 q4s3 q4s4 q4s5 q4s6 q4s7 q4s8 q4s9 q4s10 q4s11 q4s12 q4s13 q4t0 q4t1 q4t2 q4t3 q4t4 q4t5 q4t6 q4t7 q4t8 q4t9 q4t10 q4t11 q4t12 q4t13
    have Y4_5 : Ext w4 w5 := E5
    have Y0_5 : Ext w w5 := Y0_4.comp Y4_5
    have Bs_5 := Blk.ex Bs_4 E5
    have Bt_5 := Blk.ex Bt_4 E5
    clear Bs_4 Bt_4 Y0_4
    clear E5
    go_wp2_with (go_at_call 30; refine (awake5_any _).mono ?_; rintro e w6 ⟨rfl, E6⟩)
    have Y5_6 : Ext w5 w6 := E6
    have Y0_6 : Ext w w6 := Y0_5.comp Y5_6
    have Y4_6 : Ext w4 w6 := Y4_5.comp Y5_6
    have Bs_6 := Blk.ex Bs_5 E6
    have Bt_6 := Blk.ex Bt_5 E6
    clear Bs_5 Bt_5 Y0_5 Y4_5
    clear E6
    go_ret
    exact ⟨rfl, Y0_6⟩
theorem waits_law (v : Value) (s : Pu) (x : Int) (w : World) (h : PuAt w v s) (hb : PuBd s) (hx : 0 ≤ x ∧ x ≤ 255) :
    Calls Try.prog 11 #[v, .int .u8 x] w fun e w' => e = .returned (.bool true) ∧ Ext w w' := by
  have h1 := fun W (E : Ext w W) => until_any v s W (h.ext E) hb
  have hm := fun (n : Int) W (E : Ext w W) => minors_any v s n W (h.ext E) hb
  have hps := fun W va vb (A : PuAt W va s) (B : PuAt W vb s) => pstates_same va vb s W A B hb
  obtain ⟨a1, a2, a3, c1, c2, c3, rfl, _, _, _⟩ := id h
  rcases untilE_ways s with ⟨er, her, e⟩ | ⟨hv, hy, e⟩
  · rw [e] at h1
    exact waits_bad a1 a2 a3 _ c1 _ c2 _ c3 s x er w (by simpa using her) h1
  · rw [e] at h1
    have hU := untilP_bd hv
    have hend := until_end hv hy
    have hm0 : 0 ≤ x % ((untilP s : Nat) : Int) := Int.emod_nonneg _ (by omega)
    have hm1 : x % ((untilP s : Nat) : Int) < ((untilP s : Nat) : Int) := Int.emod_lt_of_pos _ (by omega)
    obtain ⟨k, hk⟩ := Int.eq_ofNat_of_zero_le hm0
    have hlike := until_like k hv hy (by omega)
    obtain ⟨_, _, _, hclk⟩ := until_law k hv hy (by omega)
    have ht : minorsP k s = { s with clock := s.clock + k, product := (minorsP k s).product, count := (minorsP k s).count } := by
      have := congrArg (fun t : Pu => { t with clock := (minorsP k s).clock, product := (minorsP k s).product, count := (minorsP k s).count }) hlike
      rw [← hclk]
      exact this
    have g1 := hm ((untilP s : Nat) : Int)
    rw [minorsE_valid hv (by omega), Int.toNat_natCast] at g1
    have g2 := hm (x % ((untilP s : Nat) : Int))
    rw [minorsE_valid hv (by omega), hk, Int.toNat_natCast] at g2
    have hvk := minorsP_valid k hv
    rw [ht] at g2 hvk
    refine waits_good a1 a2 a3 _ c1 _ c2 _ c3 s (minorsP (untilP s) s) x ((untilP s : Nat) : Int) (minorsP k s).product (minorsP k s).count w hx (by omega) hv.clock ?_ h1 (fun W E => (g1 W E).mono fun _ _ r => PuR.of r (minorsP_valid _ hv)) ?_ hps h ⟨hv.len, rfl, rfl⟩
    · by_cases hph : (minorsP (untilP s) s).phase = s.phase
      · have hwy : (minorsP (untilP s) s).why ≠ 0 := hend.elim (fun c => absurd hph c) id
        exact .inr ⟨by simpa using hph, by simpa using hwy⟩
      · exact .inl (by simpa using hph)
    · rw [hk]
      exact fun W E => (g2 W E).mono fun _ _ r => PuR.of r hvk
end Go.Proofs.Ytjfggepgjpdebaa
