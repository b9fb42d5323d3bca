import Derived.Outline
import Derived.Test.YtjfggepgjpdebaaML8a
set_option linter.unusedVariables false
set_option linter.unusedSimpArgs false
/- Contract: PulseOrders returns true. -/
namespace Go.Proofs.Ytjfggepgjpdebaa
open Go.RowKit Go.Q
/-- the lists lie in blocks of integers -/
def StRT (t : St) (w : World) (e : Ending) (w' : World) : Prop :=
  ∃ x1 x2 x3 m1 k1 m2 k2 m3 k3, e = .returned (.tuple #[sv x1 x2 x3 m1 k1 m2 k2 m3 k3 t.taken t.time t.at_ t.done t.why, .int .i64 0]) ∧ StAtT w' (sv x1 x2 x3 m1 k1 m2 k2 m3 k3 t.taken t.time t.at_ t.done t.why) t ∧ Ext w w'
theorem StRT.of {t : St} {w w' : World} {e : Ending} (h : StResT (t, 0) w e w') : StRT t w e w' := by
  obtain ⟨v, rfl, ⟨a1, a2, a3, c1, c2, c3, rfl, i⟩, hE⟩ := h
  exact ⟨a1, a2, a3, _, c1, _, c2, _, c3, rfl, ⟨a1, a2, a3, c1, c2, c3, rfl, i⟩, hE⟩
def PuRT (s : Pu) (w : World) (e : Ending) (w' : World) : Prop :=
  ∃ a1 a2 a3 n1 c1 n2 c2 n3 c3, e = .returned (.tuple #[psv a1 a2 a3 n1 c1 n2 c2 n3 c3 s, .int .i64 0]) ∧ PuAtT w' (psv a1 a2 a3 n1 c1 n2 c2 n3 c3 s) s ∧ Ext w w'
theorem PuRT.of {s : Pu} {w w' : World} {e : Ending} (h : PuResT (s, 0) w e w') : PuRT s w e w' := by
  obtain ⟨v, rfl, ⟨a1, a2, a3, c1, c2, c3, rfl, i⟩, hE⟩ := h
  exact ⟨a1, a2, a3, _, c1, _, c2, _, c3, rfl, ⟨a1, a2, a3, c1, c2, c3, rfl, i⟩, hE⟩
theorem StAtT.ext {W W' : World} {v : Value} {t : St} (h : StAtT W v t) (E : Ext W W') : StAtT W' v t := by
  obtain ⟨a1, a2, a3, c1, c2, c3, e, i1, i2, i3⟩ := h
  exact ⟨a1, a2, a3, c1, c2, c3, e, i1.ext E, i2.ext E, i3.ext E⟩
theorem StAtT.set {W : World} {v : Value} {t : St} (h : StAtT W v t) {B : Nat} {cs : Array Value} {T : TypeId} (hB : Blk W B cs T) (hT : T ≠ 3) (i : Nat) (x : Value) : StAtT (W.setCell ⟨B, i, none⟩ x) v t := by
  obtain ⟨a1, a2, a3, c1, c2, c3, e, i1, i2, i3⟩ := h
  exact ⟨a1, a2, a3, c1, c2, c3, e, i1.set hB hT i x, i2.set hB hT i x, i3.set hB hT i x⟩
theorem StAtT.at_ {W : World} {v : Value} {t : St} (h : StAtT W v t) : StAt W v t := by
  obtain ⟨a1, a2, a3, c1, c2, c3, e, i1, i2, i3⟩ := h
  exact ⟨a1, a2, a3, c1, c2, c3, e, i1.at_, i2.at_, i3.at_⟩
theorem PuAtT.ext {W W' : World} {v : Value} {t : Pu} (h : PuAtT W v t) (E : Ext W W') : PuAtT W' v t := by
  obtain ⟨a1, a2, a3, c1, c2, c3, e, i1, i2, i3⟩ := h
  exact ⟨a1, a2, a3, c1, c2, c3, e, i1.ext E, i2.ext E, i3.ext E⟩
theorem PuAtT.set {W : World} {v : Value} {t : Pu} (h : PuAtT W v t) {B : Nat} {cs : Array Value} {T : TypeId} (hB : Blk W B cs T) (hT : T ≠ 3) (i : Nat) (x : Value) : PuAtT (W.setCell ⟨B, i, none⟩ x) v t := by
  obtain ⟨a1, a2, a3, c1, c2, c3, e, i1, i2, i3⟩ := h
  exact ⟨a1, a2, a3, c1, c2, c3, e, i1.set hB hT i x, i2.set hB hT i x, i3.set hB hT i x⟩
theorem PuAtT.at_ {W : World} {v : Value} {t : Pu} (h : PuAtT W v t) : PuAt W v t := by
  obtain ⟨a1, a2, a3, c1, c2, c3, e, i1, i2, i3⟩ := h
  exact ⟨a1, a2, a3, c1, c2, c3, e, i1.at_, i2.at_, i3.at_⟩
theorem StAt.swapW {W : World} {x1 x2 x3 : Option Addr} {m1 k1 m2 k2 m3 k3 : Nat} {t0 : St} {ty : Int} (h : StAt W (sv x1 x2 x3 m1 k1 m2 k2 m3 k3 t0.taken t0.time t0.at_ t0.done ty) { t0 with why := ty }) (h0 : t0.why = 0) : StAt W (sv x1 x2 x3 m1 k1 m2 k2 m3 k3 t0.taken t0.time t0.at_ t0.done 0) t0 := by
  obtain ⟨z1, z2, z3, d1, d2, d3, hv, i1, i2, i3⟩ := h
  simp only [sv, Value.agg.injEq, Array.mk.injEq, List.cons.injEq, Value.slice.injEq, and_true, true_and] at hv
  obtain ⟨⟨rfl, e1, rfl⟩, ⟨rfl, e2, rfl⟩, rfl, e3, rfl⟩ := hv
  exact ⟨_, _, _, _, _, _, by rw [e1, e2, e3, h0], i1, i2, i3⟩
theorem PuAt.swapW {W : World} {x1 x2 x3 : Option Addr} {m1 k1 m2 k2 m3 k3 : Nat} {Q : Pu} (ty : Int) (h : PuAt W (psv x1 x2 x3 m1 k1 m2 k2 m3 k3 Q) Q) : PuAt W (psv x1 x2 x3 m1 k1 m2 k2 m3 k3 { Q with why := ty }) { Q with why := ty } := by
  obtain ⟨z1, z2, z3, d1, d2, d3, hv, i1, i2, i3⟩ := h
  simp only [psv, Value.agg.injEq, Array.mk.injEq, List.cons.injEq, Value.slice.injEq, and_true, true_and] at hv
  obtain ⟨⟨rfl, e1, rfl⟩, ⟨rfl, e2, rfl⟩, rfl, e3, rfl⟩ := hv
  exact ⟨_, _, _, _, _, _, by rw [e1, e2, e3], i1, i2, i3⟩
set_option maxRecDepth 100000 in
set_option maxHeartbeats 8000000 in
theorem orders_go (a1 a2 a3 : Option Addr) (n1 c1 n2 c2 n3 c3 : Nat) (s t0 : St) (ty uy : Int) (p Q nx : Pu) (x : Int) (w : World) (hx : 0 ≤ x ∧ x ≤ 255) (hs : 0 ≤ s.time ∧ s.time ≤ 1000000000) (ht : 0 ≤ t0.time ∧ t0.time ≤ 1000000000)
    (hc : (ty == 4) = false) (hc2 : (t0.time == 1000000000) = false) (hc3 : t0.time - s.time ≤ 19999) (hc0 : 0 ≤ t0.time - s.time) (h0 : t0.why = 0) (hty : (ty == 0) = true)
    (h1 : ∀ W, Ext w W → Calls Try.prog 22 #[sv a1 a2 a3 n1 c1 n2 c2 n3 c3 s.taken s.time s.at_ s.done s.why, .int .i64 x] W (StR { t0 with why := ty } W))
    (h2 : ∀ W, Ext w W → Calls Try.prog 47 #[sv a1 a2 a3 n1 c1 n2 c2 n3 c3 s.taken s.time s.at_ s.done s.why] W (PuR p W))
    (h3 : ∀ W v, PuAt W v p → Calls Try.prog 25 #[v, .int .i64 (t0.time - s.time)] W (PuRT Q W))
    (h4 : ∀ W v, PuAt W v Q → Calls Try.prog 49 #[v] W (StRT { t0 with why := uy } W))
    (h5 : ∀ W v, PuAt W v p → Calls Try.prog 25 #[v, .int .i64 (t0.time - s.time + 1)] W (PuRT nx W))
    (hss : ∀ W va vb, StAt W va t0 → StAt W vb t0 → Calls Try.prog 19 #[va, vb] W fun e w2 => e = .returned (.bool true) ∧ Ext W w2)
    : Calls Try.prog 16 #[sv a1 a2 a3 n1 c1 n2 c2 n3 c3 s.taken s.time s.at_ s.done s.why, .int .u8 x] w fun e w' => e = .returned (.bool true) ∧ Ext w w' := by
  have H0 := Lib.hid h0
  clear h0
  go_enter Try.func16, Try.ntmps16
  go_wp2_with fail
  refine (h1 _ ((Ext.refl w).alloc _)).mono ?_
  rintro e w1 ⟨x1, x2, x3, m1, k1, m2, k2, m3, k3, rfl, A1, E1⟩
  have Y0_1 : Ext w w1 := E1.old
  have Bs_1 := Blk.of E1
  have hw1 := Y0_1.size
  have q1s0 := fun ob => Blk.c (Blk.al Bs_1 ob) 0 (v := .slice a1 n1 c1) rfl
  have q1s1 := fun ob => Blk.c (Blk.al Bs_1 ob) 1 (v := .slice a2 n2 c2) rfl
  have q1s2 := fun ob => Blk.c (Blk.al Bs_1 ob) 2 (v := .int .i64 s.taken) rfl
  have q1s3 := fun ob => Blk.c (Blk.al Bs_1 ob) 3 (v := .slice a3 n3 c3) rfl
  have q1s4 := fun ob => Blk.c (Blk.al Bs_1 ob) 4 (v := .int .i64 s.time) rfl
  have q1s5 := fun ob => Blk.c (Blk.al Bs_1 ob) 5 (v := .int .i64 s.at_) rfl
  have q1s6 := fun ob => Blk.c (Blk.al Bs_1 ob) 6 (v := .int .i64 s.done) rfl
  have q1s7 := fun ob => Blk.c (Blk.al Bs_1 ob) 7 (v := .int .i64 s.why) rfl
  clear E1
  go_wp2_with fail
  refine (h2 _ (Y0_1.alloc _)).mono ?_
  rintro e w2 ⟨y1, y2, y3, q1, l2, q2, l3, q3, rfl, A2, E2⟩
  clear q1s0 q1s1 q1s2 q1s3 q1s4 q1s5 q1s6 q1s7
  have Y1_2 : Ext w1 w2 := E2.old
  have Y0_2 : Ext w w2 := Y0_1.comp Y1_2
  have Bs_2 := Blk.ex (Blk.al Bs_1 (.cells #[.slice x1 m1 k1, .slice x2 m2 k2, .int .i64 t0.taken, .slice x3 m3 k3, .int .i64 t0.time, .int .i64 t0.at_, .int .i64 t0.done, .int .i64 ty] 24)) E2
  have Bt_2 := Blk.of E2
  clear Bs_1 Y0_1
  clear E2
  go_wp2_with fail
  refine (h3 _ _ (A2.ext ((Ext.refl w2).alloc _))).mono ?_
  rintro e w3 ⟨z1, z2, z3, i1, j1, i2, j2, i3, j3, rfl, A3, E3⟩
  have Y2_3 : Ext w2 w3 := E3.old
  have Y0_3 : Ext w w3 := Y0_2.comp Y2_3
  have Y1_3 : Ext w1 w3 := Y1_2.comp Y2_3
  have Bs_3 := Blk.ex (Blk.al Bs_2 (.cells #[.slice y1 128 q1, .slice y2 l2 q2, .int .i64 p.taken, .slice y3 l3 q3, .int .i64 p.clock, .int .i64 p.at_, .int .i64 p.phase, .int .i64 p.order, .int .i64 p.operand, .int .i64 p.other, .int .i64 p.product, .int .i64 p.count, .int .i64 p.done, .int .i64 p.why] 41)) E3
  have Bt_3 := Blk.ex (Blk.al Bt_2 (.cells #[.slice y1 128 q1, .slice y2 l2 q2, .int .i64 p.taken, .slice y3 l3 q3, .int .i64 p.clock, .int .i64 p.at_, .int .i64 p.phase, .int .i64 p.order, .int .i64 p.operand, .int .i64 p.other, .int .i64 p.product, .int .i64 p.count, .int .i64 p.done, .int .i64 p.why] 41)) E3
  have Bp_3 := Blk.of E3
  clear Bs_2 Bt_2 Y0_2 Y1_2
  have htq := Bt_3.lt
  clear E3
  as_aux_lemma =>
  go_wp2_with fail
  refine (h4 _ _ (A3.at_.ext ((Ext.refl w3).alloc _))).mono ?_
  rintro e w4 ⟨g1, g2, g3, o1, r1, o2, r2, o3, r3, rfl, A4, E4⟩
  have Y3_4 : Ext w3 w4 := E4.old
  have Y0_4 : Ext w w4 := Y0_3.comp Y3_4
  have Y1_4 : Ext w1 w4 := Y1_3.comp Y3_4
  have Y2_4 : Ext w2 w4 := Y2_3.comp Y3_4
  have Bs_4 := Blk.ex (Blk.al Bs_3 (.cells #[.slice z1 i1 j1, .slice z2 i2 j2, .int .i64 Q.taken, .slice z3 i3 j3, .int .i64 Q.clock, .int .i64 Q.at_, .int .i64 Q.phase, .int .i64 Q.order, .int .i64 Q.operand, .int .i64 Q.other, .int .i64 Q.product, .int .i64 Q.count, .int .i64 Q.done, .int .i64 Q.why] 41)) E4
  have Bt_4 := Blk.ex (Blk.al Bt_3 (.cells #[.slice z1 i1 j1, .slice z2 i2 j2, .int .i64 Q.taken, .slice z3 i3 j3, .int .i64 Q.clock, .int .i64 Q.at_, .int .i64 Q.phase, .int .i64 Q.order, .int .i64 Q.operand, .int .i64 Q.other, .int .i64 Q.product, .int .i64 Q.count, .int .i64 Q.done, .int .i64 Q.why] 41)) E4
  have Bp_4 := Blk.ex (Blk.al Bp_3 (.cells #[.slice z1 i1 j1, .slice z2 i2 j2, .int .i64 Q.taken, .slice z3 i3 j3, .int .i64 Q.clock, .int .i64 Q.at_, .int .i64 Q.phase, .int .i64 Q.order, .int .i64 Q.operand, .int .i64 Q.other, .int .i64 Q.product, .int .i64 Q.count, .int .i64 Q.done, .int .i64 Q.why] 41)) E4
  have Bq_4 := Blk.of E4
  clear Bs_3 Bt_3 Bp_3 Y0_3 Y1_3 Y2_3
  have hw4 := Y0_4.size
  have htu := Bt_4.lt
  have hqu := Bq_4.lt
  have q4p0 := fun ob => Blk.c (Blk.al Bp_4 ob) 0 (v := .slice y1 128 q1) rfl
  have q4p1 := fun ob => Blk.c (Blk.al Bp_4 ob) 1 (v := .slice y2 l2 q2) rfl
  have q4p2 := fun ob => Blk.c (Blk.al Bp_4 ob) 2 (v := .int .i64 p.taken) rfl
  have q4p3 := fun ob => Blk.c (Blk.al Bp_4 ob) 3 (v := .slice y3 l3 q3) rfl
  have q4p4 := fun ob => Blk.c (Blk.al Bp_4 ob) 4 (v := .int .i64 p.clock) rfl
  have q4p5 := fun ob => Blk.c (Blk.al Bp_4 ob) 5 (v := .int .i64 p.at_) rfl
  have q4p6 := fun ob => Blk.c (Blk.al Bp_4 ob) 6 (v := .int .i64 p.phase) rfl
  have q4p7 := fun ob => Blk.c (Blk.al Bp_4 ob) 7 (v := .int .i64 p.order) rfl
  have q4p8 := fun ob => Blk.c (Blk.al Bp_4 ob) 8 (v := .int .i64 p.operand) rfl
  have q4p9 := fun ob => Blk.c (Blk.al Bp_4 ob) 9 (v := .int .i64 p.other) rfl
  have q4p10 := fun ob => Blk.c (Blk.al Bp_4 ob) 10 (v := .int .i64 p.product) rfl
  have q4p11 := fun ob => Blk.c (Blk.al Bp_4 ob) 11 (v := .int .i64 p.count) rfl
  have q4p12 := fun ob => Blk.c (Blk.al Bp_4 ob) 12 (v := .int .i64 p.done) rfl
  have q4p13 := fun ob => Blk.c (Blk.al Bp_4 ob) 13 (v := .int .i64 p.why) rfl
  clear E4
  as_aux_lemma =>
  go_wp2_with fail
  refine (h5 _ _ (A2.ext (Y2_4.alloc _))).mono ?_
  rintro e w5 ⟨f1, f2, f3, e1, b1, e2, b2, e3, b3, rfl, A5, E5⟩
  clear q4p0 q4p1 q4p2 q4p3 q4p4 q4p5 q4p6 q4p7 q4p8 q4p9 q4p10 q4p11 q4p12 q4p13
  have Y4_5 : Ext w4 w5 := E5.old
  have Y0_5 : Ext w w5 := Y0_4.comp Y4_5
  have Y1_5 : Ext w1 w5 := Y1_4.comp Y4_5
  have Y2_5 : Ext w2 w5 := Y2_4.comp Y4_5
  have Y3_5 : Ext w3 w5 := Y3_4.comp Y4_5
  have Bs_5 := Blk.ex (Blk.al Bs_4 (.cells #[.slice g1 o1 r1, .slice g2 o2 r2, .int .i64 t0.taken, .slice g3 o3 r3, .int .i64 t0.time, .int .i64 t0.at_, .int .i64 t0.done, .int .i64 uy] 24)) E5
  have Bt_5 := Blk.ex (Blk.al Bt_4 (.cells #[.slice g1 o1 r1, .slice g2 o2 r2, .int .i64 t0.taken, .slice g3 o3 r3, .int .i64 t0.time, .int .i64 t0.at_, .int .i64 t0.done, .int .i64 uy] 24)) E5
  have Bp_5 := Blk.ex (Blk.al Bp_4 (.cells #[.slice g1 o1 r1, .slice g2 o2 r2, .int .i64 t0.taken, .slice g3 o3 r3, .int .i64 t0.time, .int .i64 t0.at_, .int .i64 t0.done, .int .i64 uy] 24)) E5
  have Bq_5 := Blk.ex (Blk.al Bq_4 (.cells #[.slice g1 o1 r1, .slice g2 o2 r2, .int .i64 t0.taken, .slice g3 o3 r3, .int .i64 t0.time, .int .i64 t0.at_, .int .i64 t0.done, .int .i64 uy] 24)) E5
  have Bu_5 := Blk.of E5
  clear Bs_4 Bt_4 Bp_4 Bq_4 Y0_4 Y1_4 Y2_4 Y3_4
  have hqn := Bq_5.lt
  have hun := Bu_5.lt
  clear E5
  clear Bs_5 Bp_5
  have q5t7 := fun ob => Blk.c (Blk.al Bt_5 ob) 7 (v := .int .i64 ty) rfl
  as_aux_lemma =>
  go_upto_region 14 with fail
  clear q5t7
  have bN := Blk.nw w5 #[.slice f1 e1 b1, .slice f2 e2 b2, .int .i64 nx.taken, .slice f3 e3 b3, .int .i64 nx.clock, .int .i64 nx.at_, .int .i64 nx.phase, .int .i64 nx.order, .int .i64 nx.operand, .int .i64 nx.other, .int .i64 nx.product, .int .i64 nx.count, .int .i64 nx.done, .int .i64 nx.why] 41
  have bt := Blk.al Bt_5 (.cells #[.slice f1 e1 b1, .slice f2 e2 b2, .int .i64 nx.taken, .slice f3 e3 b3, .int .i64 nx.clock, .int .i64 nx.at_, .int .i64 nx.phase, .int .i64 nx.order, .int .i64 nx.operand, .int .i64 nx.other, .int .i64 nx.product, .int .i64 nx.count, .int .i64 nx.done, .int .i64 nx.why] 41)
  have bq := Blk.al Bq_5 (.cells #[.slice f1 e1 b1, .slice f2 e2 b2, .int .i64 nx.taken, .slice f3 e3 b3, .int .i64 nx.clock, .int .i64 nx.at_, .int .i64 nx.phase, .int .i64 nx.order, .int .i64 nx.operand, .int .i64 nx.other, .int .i64 nx.product, .int .i64 nx.count, .int .i64 nx.done, .int .i64 nx.why] 41)
  have bu := Blk.al Bu_5 (.cells #[.slice f1 e1 b1, .slice f2 e2 b2, .int .i64 nx.taken, .slice f3 e3 b3, .int .i64 nx.clock, .int .i64 nx.at_, .int .i64 nx.phase, .int .i64 nx.order, .int .i64 nx.operand, .int .i64 nx.other, .int .i64 nx.product, .int .i64 nx.count, .int .i64 nx.done, .int .i64 nx.why] 41)
  have X : Ext w5 (w5.alloc (.cells #[.slice f1 e1 b1, .slice f2 e2 b2, .int .i64 nx.taken, .slice f3 e3 b3, .int .i64 nx.clock, .int .i64 nx.at_, .int .i64 nx.phase, .int .i64 nx.order, .int .i64 nx.operand, .int .i64 nx.other, .int .i64 nx.product, .int .i64 nx.count, .int .i64 nx.done, .int .i64 nx.why] 41)) := (Ext.refl _).alloc _
  obtain ⟨V, hV⟩ : ∃ V : World, V = w5.alloc (.cells #[.slice f1 e1 b1, .slice f2 e2 b2, .int .i64 nx.taken, .slice f3 e3 b3, .int .i64 nx.clock, .int .i64 nx.at_, .int .i64 nx.phase, .int .i64 nx.order, .int .i64 nx.operand, .int .i64 nx.other, .int .i64 nx.product, .int .i64 nx.count, .int .i64 nx.done, .int .i64 nx.why] 41) := ⟨_, rfl⟩
  rw [← hV] at bN bt bq bu X
  rw [← hV]
  clear hV
  have hnv : w5.heap.size < V.heap.size := bN.lt
  have ntu : w1.heap.size ≠ w4.heap.size := by omega
  have nqu : w3.heap.size ≠ w4.heap.size := by have := hqu; omega
  have nqt : w3.heap.size ≠ w1.heap.size := by have := htq; omega
  have nnu : w5.heap.size ≠ w4.heap.size := by have := hun; omega
  have nnt : w5.heap.size ≠ w1.heap.size := by have := hun; omega
  have u7 := bu.c 7 (v := .int .i64 uy) rfl
  have uf := bu.f 7
  have bt1 := bt.ot (i := 7) (v := .int .i64 0) ntu
  have t7 := bt1.c 7 (v := .int .i64 ty) rfl
  have tf := bt1.f 7
  go_upto_region 15 with fail
  clear u7 uf t7 tf
  have Bt_6 : Blk ((V.setCell ⟨w4.heap.size, 7, none⟩ (.int .i64 0)).setCell ⟨w1.heap.size, 7, none⟩ (.int .i64 0)) (w1.heap.size) #[.slice x1 m1 k1, .slice x2 m2 k2, .int .i64 t0.taken, .slice x3 m3 k3, .int .i64 t0.time, .int .i64 t0.at_, .int .i64 t0.done, .int .i64 0] 24 := bt1.st 7 _
  have Bu_6 : Blk ((V.setCell ⟨w4.heap.size, 7, none⟩ (.int .i64 0)).setCell ⟨w1.heap.size, 7, none⟩ (.int .i64 0)) (w4.heap.size) #[.slice g1 o1 r1, .slice g2 o2 r2, .int .i64 t0.taken, .slice g3 o3 r3, .int .i64 t0.time, .int .i64 t0.at_, .int .i64 t0.done, .int .i64 0] 24 := (bu.st 7 _).ot (Ne.symm ntu)
  have Bq_6 : Blk ((V.setCell ⟨w4.heap.size, 7, none⟩ (.int .i64 0)).setCell ⟨w1.heap.size, 7, none⟩ (.int .i64 0)) (w3.heap.size) #[.slice z1 i1 j1, .slice z2 i2 j2, .int .i64 Q.taken, .slice z3 i3 j3, .int .i64 Q.clock, .int .i64 Q.at_, .int .i64 Q.phase, .int .i64 Q.order, .int .i64 Q.operand, .int .i64 Q.other, .int .i64 Q.product, .int .i64 Q.count, .int .i64 Q.done, .int .i64 Q.why] 41 := (bq.ot nqu).ot nqt
  have Bn_6 : Blk ((V.setCell ⟨w4.heap.size, 7, none⟩ (.int .i64 0)).setCell ⟨w1.heap.size, 7, none⟩ (.int .i64 0)) (w5.heap.size) #[.slice f1 e1 b1, .slice f2 e2 b2, .int .i64 nx.taken, .slice f3 e3 b3, .int .i64 nx.clock, .int .i64 nx.at_, .int .i64 nx.phase, .int .i64 nx.order, .int .i64 nx.operand, .int .i64 nx.other, .int .i64 nx.product, .int .i64 nx.count, .int .i64 nx.done, .int .i64 nx.why] 41 := (bN.ot nnu).ot nnt
  have D4 := ((A4.ext (Y4_5.comp X)).set bu (by decide) 7 (.int .i64 0)).set bt1 (by decide) 7 (.int .i64 0)
  have D5 := ((A5.ext X).set bu (by decide) 7 (.int .i64 0)).set bt1 (by decide) 7 (.int .i64 0)
  have D3 := ((A3.ext (Y3_5.comp X)).set bu (by decide) 7 (.int .i64 0)).set bt1 (by decide) 7 (.int .i64 0)
  have D1 : Ext w1 ((V.setCell ⟨w4.heap.size, 7, none⟩ (.int .i64 0)).setCell ⟨w1.heap.size, 7, none⟩ (.int .i64 0)) := ((Y1_5.comp X).setCell (p := ⟨w4.heap.size, 7, none⟩) (by show w1.heap.size ≤ w4.heap.size; omega) _).setCell (p := ⟨w1.heap.size, 7, none⟩) (by show w1.heap.size ≤ w1.heap.size; omega) _
  have Y0_6 : Ext w ((V.setCell ⟨w4.heap.size, 7, none⟩ (.int .i64 0)).setCell ⟨w1.heap.size, 7, none⟩ (.int .i64 0)) := ((Y0_5.comp X).setCell (p := ⟨w4.heap.size, 7, none⟩) (by show w.heap.size ≤ w4.heap.size; omega) _).setCell (p := ⟨w1.heap.size, 7, none⟩) (by show w.heap.size ≤ w1.heap.size; omega) _
  obtain ⟨w6, hw6⟩ : ∃ w6 : World, w6 = ((V.setCell ⟨w4.heap.size, 7, none⟩ (.int .i64 0)).setCell ⟨w1.heap.size, 7, none⟩ (.int .i64 0)) := ⟨_, rfl⟩
  rw [← hw6] at Bt_6 Bu_6 Bq_6 Bn_6 D1 D3 D4 D5 Y0_6
  rw [← hw6]
  clear hw6 bt bu bq bN bt1 X
  have q6t0 := Blk.c Bt_6 0 (v := .slice x1 m1 k1) rfl
  have q6t1 := Blk.c Bt_6 1 (v := .slice x2 m2 k2) rfl
  have q6t2 := Blk.c Bt_6 2 (v := .int .i64 t0.taken) rfl
  have q6t3 := Blk.c Bt_6 3 (v := .slice x3 m3 k3) rfl
  have q6t4 := Blk.c Bt_6 4 (v := .int .i64 t0.time) rfl
  have q6t5 := Blk.c Bt_6 5 (v := .int .i64 t0.at_) rfl
  have q6t6 := Blk.c Bt_6 6 (v := .int .i64 t0.done) rfl
  have q6t7 := Blk.c Bt_6 7 (v := .int .i64 0) rfl
  have q6u0 := Blk.c Bu_6 0 (v := .slice g1 o1 r1) rfl
  have q6u1 := Blk.c Bu_6 1 (v := .slice g2 o2 r2) rfl
  have q6u2 := Blk.c Bu_6 2 (v := .int .i64 t0.taken) rfl
  have q6u3 := Blk.c Bu_6 3 (v := .slice g3 o3 r3) rfl
  have q6u4 := Blk.c Bu_6 4 (v := .int .i64 t0.time) rfl
  have q6u5 := Blk.c Bu_6 5 (v := .int .i64 t0.at_) rfl
  have q6u6 := Blk.c Bu_6 6 (v := .int .i64 t0.done) rfl
  have q6u7 := Blk.c Bu_6 7 (v := .int .i64 0) rfl
  as_aux_lemma =>
  go_wp2_with fail
  refine (hss _ _ _ ((A1.ext D1).swapW H0.out) (D4.at_.swapW H0.out)).mono ?_
  rintro e w7 ⟨rfl, E7⟩
  clear q6t0 q6t1 q6t2 q6t3 q6t4 q6t5 q6t6 q6t7 q6u0 q6u1 q6u2 q6u3 q6u4 q6u5 q6u6 q6u7
  have Y6_7 : Ext w6 w7 := E7
  have Y0_7 : Ext w w7 := Y0_6.comp Y6_7
  have Bt_7 := Blk.ex Bt_6 E7
  have Bu_7 := Blk.ex Bu_6 E7
  have Bq_7 := Blk.ex Bq_6 E7
  have Bn_7 := Blk.ex Bn_6 E7
  clear Bt_6 Bu_6 Bq_6 Bn_6 Y0_6
  clear E7
  clear Bt_7 Bu_7
  go_wp2_with (go_at_call 30; refine (awake5_any _).mono ?_; rintro e w8 ⟨rfl, E8⟩)
  have Y7_8 : Ext w7 w8 := E8
  have Y0_8 : Ext w w8 := Y0_7.comp Y7_8
  have Y6_8 : Ext w6 w8 := Y6_7.comp Y7_8
  have Bq_8 := Blk.ex Bq_7 E8
  have Bn_8 := Blk.ex Bn_7 E8
  clear Bq_7 Bn_7 Y0_7 Y6_7
  clear E8
  go_ret
  exact ⟨rfl, Y0_8⟩
end Go.Proofs.Ytjfggepgjpdebaa
