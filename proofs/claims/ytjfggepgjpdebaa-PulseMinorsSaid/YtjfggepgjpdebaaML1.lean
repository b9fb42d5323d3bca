import Derived.Outline
import Derived.Test.YtjfggepgjpdebaaML0
import Derived.Test.YtjfggepgjpdebaaM38
set_option linter.unusedVariables false
set_option linter.unusedSimpArgs false
/- Contract: PulseMinors returns true. -/
namespace Go.Proofs.Ytjfggepgjpdebaa
open Go.RowKit Go.Q
set_option maxRecDepth 100000 in
set_option maxHeartbeats 8000000 in
theorem minors_law (v : Value) (s : Pu) (many : Int) (w : World) (h : PuAt w v s) (hb : PuBd s) :
    Calls Try.prog 5 #[v, .int .i64 many] w fun e w' => e = .returned (.bool true) ∧ Ext w w' := by
  have h1 := fun W (E : Ext w W) => minors_any v s many W (h.ext E) hb
  have h2 := fun W (E : Ext w W) => rminors_any v s many W (h.ext E) hb
  have h3 := fun W (E : Ext w W) => until_any v s W (h.ext E) hb
  have h4 := fun W (E : Ext w W) => runtil_any v s W (h.ext E) hb
  have hB := minorsE_bd s many
  generalize minorsE s many = p at *
  obtain ⟨t, er⟩ := p
  generalize untilE s = q at *
  obtain ⟨u, eu⟩ := q
  have hs := fun W va vb (A : PuAt W va t) (B : PuAt W vb t) => pstates_same va vb t W A B hB
  have hee : (er != er) = false := by simp
  have huu : (u == u) = true := by simp
  have heu : (eu == eu) = true := by simp
  obtain ⟨a1, a2, a3, c1, c2, c3, rfl, _, _, _⟩ := h
  generalize s.store.length = n1 at *
  generalize s.tape.length = n2 at *
  generalize s.printed.length = n3 at *
  clear hb hB
  go_enter Try.func5, Try.ntmps5
  go_wp2_with fail
  refine (h1 _ (by repeat (first | with_reducible exact Ext.refl _ | with_reducible refine Ext.alloc ?_ _ | with_reducible refine Below.drew ?_))).mono ?_
  rintro e w1 ⟨v1, rfl, A1, E1⟩
  obtain ⟨x1, x2, x3, k1, k2, k3, rfl, _, _, _⟩ := id A1
  have P1 := Blk.of E1
  have q0 := fun ob => Blk.c (Blk.al P1 ob) 0 (v := .slice a1 n1 c1) rfl
  have q1 := fun ob => Blk.c (Blk.al P1 ob) 1 (v := .slice a2 n2 c2) rfl
  have q2 := fun ob => Blk.c (Blk.al P1 ob) 2 (v := .int .i64 s.taken) rfl
  have q3 := fun ob => Blk.c (Blk.al P1 ob) 3 (v := .slice a3 n3 c3) rfl
  have q4 := fun ob => Blk.c (Blk.al P1 ob) 4 (v := .int .i64 s.clock) rfl
  have q5 := fun ob => Blk.c (Blk.al P1 ob) 5 (v := .int .i64 s.at_) rfl
  have q6 := fun ob => Blk.c (Blk.al P1 ob) 6 (v := .int .i64 s.phase) rfl
  have q7 := fun ob => Blk.c (Blk.al P1 ob) 7 (v := .int .i64 s.order) rfl
  have q8 := fun ob => Blk.c (Blk.al P1 ob) 8 (v := .int .i64 s.operand) rfl
  have q9 := fun ob => Blk.c (Blk.al P1 ob) 9 (v := .int .i64 s.other) rfl
  have q10 := fun ob => Blk.c (Blk.al P1 ob) 10 (v := .int .i64 s.product) rfl
  have q11 := fun ob => Blk.c (Blk.al P1 ob) 11 (v := .int .i64 s.count) rfl
  have q12 := fun ob => Blk.c (Blk.al P1 ob) 12 (v := .int .i64 s.done) rfl
  have q13 := fun ob => Blk.c (Blk.al P1 ob) 13 (v := .int .i64 s.why) rfl
  clear h1
  go_wp2_with fail
  refine (h2 _ (by repeat (first | with_reducible exact E1.old | with_reducible refine Ext.alloc ?_ _ | with_reducible refine Below.drew ?_))).mono ?_
  rintro e w2 ⟨v2, rfl, A2, E2⟩
  obtain ⟨y1, y2, y3, m1, m2, m3, rfl, _, _, _⟩ := id A2
  clear q0 q1 q2 q3 q4 q5 q6 q7 q8 q9 q10 q11 q12 q13
  have R2 := Blk.of E2
  have r0 := fun ob => Blk.c (Blk.al R2 ob) 0 (v := .slice x1 t.store.length k1) rfl
  have r1 := fun ob => Blk.c (Blk.al R2 ob) 1 (v := .slice x2 t.tape.length k2) rfl
  have r2 := fun ob => Blk.c (Blk.al R2 ob) 2 (v := .int .i64 t.taken) rfl
  have r3 := fun ob => Blk.c (Blk.al R2 ob) 3 (v := .slice x3 t.printed.length k3) rfl
  have r4 := fun ob => Blk.c (Blk.al R2 ob) 4 (v := .int .i64 t.clock) rfl
  have r5 := fun ob => Blk.c (Blk.al R2 ob) 5 (v := .int .i64 t.at_) rfl
  have r6 := fun ob => Blk.c (Blk.al R2 ob) 6 (v := .int .i64 t.phase) rfl
  have r7 := fun ob => Blk.c (Blk.al R2 ob) 7 (v := .int .i64 t.order) rfl
  have r8 := fun ob => Blk.c (Blk.al R2 ob) 8 (v := .int .i64 t.operand) rfl
  have r9 := fun ob => Blk.c (Blk.al R2 ob) 9 (v := .int .i64 t.other) rfl
  have r10 := fun ob => Blk.c (Blk.al R2 ob) 10 (v := .int .i64 t.product) rfl
  have r11 := fun ob => Blk.c (Blk.al R2 ob) 11 (v := .int .i64 t.count) rfl
  have r12 := fun ob => Blk.c (Blk.al R2 ob) 12 (v := .int .i64 t.done) rfl
  have r13 := fun ob => Blk.c (Blk.al R2 ob) 13 (v := .int .i64 t.why) rfl
  clear h2
  go_wp2_with fail
  refine (hs _ _ _ (A1.ext (by repeat (first | with_reducible exact E2.old | with_reducible refine Ext.alloc ?_ _ | with_reducible refine Below.drew ?_))) (A2.ext (by repeat (first | with_reducible exact Ext.refl _ | with_reducible refine Ext.alloc ?_ _ | with_reducible refine Below.drew ?_)))).mono ?_
  rintro e w3 ⟨rfl, E3⟩
  clear r0 r1 r2 r3 r4 r5 r6 r7 r8 r9 r10 r11 r12 r13
  have P3 := (((P1.al _).ex E2).al _).ex E3
  have q0 := Blk.c P3 0 (v := .slice a1 n1 c1) rfl
  have q1 := Blk.c P3 1 (v := .slice a2 n2 c2) rfl
  have q2 := Blk.c P3 2 (v := .int .i64 s.taken) rfl
  have q3 := Blk.c P3 3 (v := .slice a3 n3 c3) rfl
  have q4 := Blk.c P3 4 (v := .int .i64 s.clock) rfl
  have q5 := Blk.c P3 5 (v := .int .i64 s.at_) rfl
  have q6 := Blk.c P3 6 (v := .int .i64 s.phase) rfl
  have q7 := Blk.c P3 7 (v := .int .i64 s.order) rfl
  have q8 := Blk.c P3 8 (v := .int .i64 s.operand) rfl
  have q9 := Blk.c P3 9 (v := .int .i64 s.other) rfl
  have q10 := Blk.c P3 10 (v := .int .i64 s.product) rfl
  have q11 := Blk.c P3 11 (v := .int .i64 s.count) rfl
  have q12 := Blk.c P3 12 (v := .int .i64 s.done) rfl
  have q13 := Blk.c P3 13 (v := .int .i64 s.why) rfl
  have X3 : Ext w w3 := ((E1.old.comp E2.old).comp E3.old)
  clear hs
  go_wp2_with fail
  refine (h3 _ X3).mono ?_
  rintro e w4 ⟨rfl, E4⟩
  clear q0 q1 q2 q3 q4 q5 q6 q7 q8 q9 q10 q11 q12 q13
  have P4 := P3.ex E4
  have q0 := Blk.c P4 0 (v := .slice a1 n1 c1) rfl
  have q1 := Blk.c P4 1 (v := .slice a2 n2 c2) rfl
  have q2 := Blk.c P4 2 (v := .int .i64 s.taken) rfl
  have q3 := Blk.c P4 3 (v := .slice a3 n3 c3) rfl
  have q4 := Blk.c P4 4 (v := .int .i64 s.clock) rfl
  have q5 := Blk.c P4 5 (v := .int .i64 s.at_) rfl
  have q6 := Blk.c P4 6 (v := .int .i64 s.phase) rfl
  have q7 := Blk.c P4 7 (v := .int .i64 s.order) rfl
  have q8 := Blk.c P4 8 (v := .int .i64 s.operand) rfl
  have q9 := Blk.c P4 9 (v := .int .i64 s.other) rfl
  have q10 := Blk.c P4 10 (v := .int .i64 s.product) rfl
  have q11 := Blk.c P4 11 (v := .int .i64 s.count) rfl
  have q12 := Blk.c P4 12 (v := .int .i64 s.done) rfl
  have q13 := Blk.c P4 13 (v := .int .i64 s.why) rfl
  go_wp2_with fail
  refine (h4 _ (X3.comp E4)).mono ?_
  rintro e w5 ⟨rfl, E5⟩
  clear q0 q1 q2 q3 q4 q5 q6 q7 q8 q9 q10 q11 q12 q13
  go_wp2_with (go_at_call 30; refine (awake5_any _).mono ?_; rintro e w6 ⟨rfl, E6⟩)
  go_ret
  exact ⟨rfl, (X3.comp E4).comp (E5.comp E6)⟩
end Go.Proofs.Ytjfggepgjpdebaa
