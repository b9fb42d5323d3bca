import Derived.Deep.QuietTactic
import Derived.BigQuiet
import Derived.Outline
import Derived.Test.YtjfggepgjpdebaaM23
import Derived.Test.YtjfggepgjpdebaaM0
import Derived.Test.YtjfggepgjpdebaaM9
set_option linter.unusedVariables false
set_option linter.unusedSimpArgs false
/- Contract: the reference of layer 5: Check (a field is out of its range, 0 to 5). -/
namespace Go.Proofs.Ytjfggepgjpdebaa
open Go.RowKit Go.Q
set_option maxRecDepth 100000 in
set_option maxHeartbeats 16000000 in
theorem rcheck5_0 (a1 a2 a3 : Option Addr) (c1 c2 c3 : Nat) (s : Pu) (w : World) (i1 : IntsAt w a1 s.store) (i2 : IntsAt w a2 s.tape) (i3 : IntsAt w a3 s.printed) (hb : PuBd s) (hq : (checkQ (base4 s)).2.2 = 0)  (g0 : inB s.taken 0 s.tape.length = false) :
    Calls Try.prog 46 #[psv a1 a2 a3 s.store.length c1 s.tape.length c2 s.printed.length c3 s] w fun e w' => e = .returned (v3 (5, 0, 7)) ∧ Ext w w' := by
  have hck : ∀ W, Ext w W → Calls Try.prog 81 #[.agg #[.slice a1 s.store.length c1, .slice a2 s.tape.length c2, .int .i64 0, .slice a3 s.printed.length c3, .int .i64 0, .int .i64 0, .int .i64 0, .int .i64 0]] W fun e w' => e = .returned (v3 (checkQ (base4 s))) ∧ Ext W w' := fun W E =>
    rcheck_any _ (base4 s) W ⟨a1, a2, a3, c1, c2, c3, rfl, i1.ext E, i2.ext E, i3.ext E⟩ hb
  rw [checkQ_zero hq] at hck
  unfold v3 at hck ⊢
  have hin := fun n lo hi W => (rin5_any n lo hi W).mono (R' := fun e w' => e = .returned (.bool (inB n lo hi)) ∧ w' = W) fun e w' h => ⟨h.1, h.2.symm⟩
  have had := fun n W => (address_any n W).mono (R' := fun e w' => e = .returned (.bool (addrB n)) ∧ w' = W) fun e w' h => ⟨h.1, h.2.symm⟩
  have hwd := fun n W => (word_any n W).mono (R' := fun e w' => e = .returned (.bool (wordB n)) ∧ w' = W) fun e w' h => ⟨h.1, h.2.symm⟩
  have hhf := fun W => (rhalf_any W).mono (R' := fun e w' => e = .returned (.int .i64 140737488355328) ∧ w' = W) fun e w' h => ⟨h.1, h.2.symm⟩
  clear i1 i2 i3 hb hq
  go_enter Try.func46, Try.ntmps46
  go_wp2_with fail
  refine (hck _ (by repeat (first | with_reducible exact Ext.refl _ | with_reducible refine Ext.alloc ?_ _ | with_reducible refine Below.drew ?_))).mono ?_
  rintro e w1 ⟨rfl, E1⟩
  have P := Blk.of E1
  have u0 := Blk.c P 0 (v := .slice a1 s.store.length c1) rfl
  have u1 := Blk.c P 1 (v := .slice a2 s.tape.length c2) rfl
  have u2 := Blk.c P 2 (v := .int .i64 s.taken) rfl
  have u3 := Blk.c P 3 (v := .slice a3 s.printed.length c3) rfl
  have u4 := Blk.c P 4 (v := .int .i64 s.clock) rfl
  have u5 := Blk.c P 5 (v := .int .i64 s.at_) rfl
  have u6 := Blk.c P 6 (v := .int .i64 s.phase) rfl
  have u7 := Blk.c P 7 (v := .int .i64 s.order) rfl
  have u8 := Blk.c P 8 (v := .int .i64 s.operand) rfl
  have u9 := Blk.c P 9 (v := .int .i64 s.other) rfl
  have u10 := Blk.c P 10 (v := .int .i64 s.product) rfl
  have u11 := Blk.c P 11 (v := .int .i64 s.count) rfl
  have u12 := Blk.c P 12 (v := .int .i64 s.done) rfl
  have u13 := Blk.c P 13 (v := .int .i64 s.why) rfl
  have hz0 : w.heap.size < w1.heap.size := P.lt
  go_wp2_with fail
  refine wp_region_quiet_lit (by kernel_rfl) (by kernel_rfl) ?_
  simp only [List.append_eq, List.cons_append, List.nil_append]
  repeat (go_big_quiet_step (first | (go_at_call 67; exact Calls.quiet_of_same (hin _ _ _ _)) | (go_at_call 54; exact Calls.quiet_of_same (had _ _)) | (go_at_call 41; exact Calls.quiet_of_same (hwd _ _)) | (go_at_call 82; exact Calls.quiet_of_same (hhf _))))
  refine wpQuiet_nil ?_
  intro _ hw'
  obtain ⟨nq, hw''⟩ := hw'
  subst hw''
  go_wp2_with fail
  go_ret3
  exact ⟨rfl, (by repeat (first | with_reducible exact Ext.refl _ | with_reducible exact E1 | with_reducible exact E1.old | with_reducible exact E1.old.old | with_reducible exact E1.old.old.old | (with_reducible refine Ext.alloc ?_ _) | (with_reducible refine Below.drew ?_) | (with_reducible refine below_drewN ?_ _) | (with_reducible refine ext_put ?_ _ ?_; rotate_left; (first | with_reducible exact Nat.le_refl _ | with_reducible exact Nat.le_succ _ | omega | (dsimp only; omega)))))⟩
set_option maxRecDepth 100000 in
set_option maxHeartbeats 16000000 in
theorem rcheck5_1 (a1 a2 a3 : Option Addr) (c1 c2 c3 : Nat) (s : Pu) (w : World) (i1 : IntsAt w a1 s.store) (i2 : IntsAt w a2 s.tape) (i3 : IntsAt w a3 s.printed) (hb : PuBd s) (hq : (checkQ (base4 s)).2.2 = 0) (g0 : inB s.taken 0 s.tape.length = true) (g1 : inB s.clock 0 1000000000 = false) :
    Calls Try.prog 46 #[psv a1 a2 a3 s.store.length c1 s.tape.length c2 s.printed.length c3 s] w fun e w' => e = .returned (v3 (5, 0, 7)) ∧ Ext w w' := by
  have hck : ∀ W, Ext w W → Calls Try.prog 81 #[.agg #[.slice a1 s.store.length c1, .slice a2 s.tape.length c2, .int .i64 0, .slice a3 s.printed.length c3, .int .i64 0, .int .i64 0, .int .i64 0, .int .i64 0]] W fun e w' => e = .returned (v3 (checkQ (base4 s))) ∧ Ext W w' := fun W E =>
    rcheck_any _ (base4 s) W ⟨a1, a2, a3, c1, c2, c3, rfl, i1.ext E, i2.ext E, i3.ext E⟩ hb
  rw [checkQ_zero hq] at hck
  unfold v3 at hck ⊢
  have hin := fun n lo hi W => (rin5_any n lo hi W).mono (R' := fun e w' => e = .returned (.bool (inB n lo hi)) ∧ w' = W) fun e w' h => ⟨h.1, h.2.symm⟩
  have had := fun n W => (address_any n W).mono (R' := fun e w' => e = .returned (.bool (addrB n)) ∧ w' = W) fun e w' h => ⟨h.1, h.2.symm⟩
  have hwd := fun n W => (word_any n W).mono (R' := fun e w' => e = .returned (.bool (wordB n)) ∧ w' = W) fun e w' h => ⟨h.1, h.2.symm⟩
  have hhf := fun W => (rhalf_any W).mono (R' := fun e w' => e = .returned (.int .i64 140737488355328) ∧ w' = W) fun e w' h => ⟨h.1, h.2.symm⟩
  clear i1 i2 i3 hb hq
  go_enter Try.func46, Try.ntmps46
  go_wp2_with fail
  refine (hck _ (by repeat (first | with_reducible exact Ext.refl _ | with_reducible refine Ext.alloc ?_ _ | with_reducible refine Below.drew ?_))).mono ?_
  rintro e w1 ⟨rfl, E1⟩
  have P := Blk.of E1
  have u0 := Blk.c P 0 (v := .slice a1 s.store.length c1) rfl
  have u1 := Blk.c P 1 (v := .slice a2 s.tape.length c2) rfl
  have u2 := Blk.c P 2 (v := .int .i64 s.taken) rfl
  have u3 := Blk.c P 3 (v := .slice a3 s.printed.length c3) rfl
  have u4 := Blk.c P 4 (v := .int .i64 s.clock) rfl
  have u5 := Blk.c P 5 (v := .int .i64 s.at_) rfl
  have u6 := Blk.c P 6 (v := .int .i64 s.phase) rfl
  have u7 := Blk.c P 7 (v := .int .i64 s.order) rfl
  have u8 := Blk.c P 8 (v := .int .i64 s.operand) rfl
  have u9 := Blk.c P 9 (v := .int .i64 s.other) rfl
  have u10 := Blk.c P 10 (v := .int .i64 s.product) rfl
  have u11 := Blk.c P 11 (v := .int .i64 s.count) rfl
  have u12 := Blk.c P 12 (v := .int .i64 s.done) rfl
  have u13 := Blk.c P 13 (v := .int .i64 s.why) rfl
  have hz0 : w.heap.size < w1.heap.size := P.lt
  go_wp2_with fail
  refine wp_region_quiet_lit (by kernel_rfl) (by kernel_rfl) ?_
  simp only [List.append_eq, List.cons_append, List.nil_append]
  repeat (go_big_quiet_step (first | (go_at_call 67; exact Calls.quiet_of_same (hin _ _ _ _)) | (go_at_call 54; exact Calls.quiet_of_same (had _ _)) | (go_at_call 41; exact Calls.quiet_of_same (hwd _ _)) | (go_at_call 82; exact Calls.quiet_of_same (hhf _))))
  refine wpQuiet_nil ?_
  intro _ hw'
  obtain ⟨nq, hw''⟩ := hw'
  subst hw''
  go_wp2_with fail
  go_ret3
  exact ⟨rfl, (by repeat (first | with_reducible exact Ext.refl _ | with_reducible exact E1 | with_reducible exact E1.old | with_reducible exact E1.old.old | with_reducible exact E1.old.old.old | (with_reducible refine Ext.alloc ?_ _) | (with_reducible refine Below.drew ?_) | (with_reducible refine below_drewN ?_ _) | (with_reducible refine ext_put ?_ _ ?_; rotate_left; (first | with_reducible exact Nat.le_refl _ | with_reducible exact Nat.le_succ _ | omega | (dsimp only; omega)))))⟩
set_option maxRecDepth 100000 in
set_option maxHeartbeats 16000000 in
theorem rcheck5_2 (a1 a2 a3 : Option Addr) (c1 c2 c3 : Nat) (s : Pu) (w : World) (i1 : IntsAt w a1 s.store) (i2 : IntsAt w a2 s.tape) (i3 : IntsAt w a3 s.printed) (hb : PuBd s) (hq : (checkQ (base4 s)).2.2 = 0) (g0 : inB s.taken 0 s.tape.length = true) (g1 : inB s.clock 0 1000000000 = true) (g2 : addrB s.at_ = false) :
    Calls Try.prog 46 #[psv a1 a2 a3 s.store.length c1 s.tape.length c2 s.printed.length c3 s] w fun e w' => e = .returned (v3 (5, 0, 7)) ∧ Ext w w' := by
  have hck : ∀ W, Ext w W → Calls Try.prog 81 #[.agg #[.slice a1 s.store.length c1, .slice a2 s.tape.length c2, .int .i64 0, .slice a3 s.printed.length c3, .int .i64 0, .int .i64 0, .int .i64 0, .int .i64 0]] W fun e w' => e = .returned (v3 (checkQ (base4 s))) ∧ Ext W w' := fun W E =>
    rcheck_any _ (base4 s) W ⟨a1, a2, a3, c1, c2, c3, rfl, i1.ext E, i2.ext E, i3.ext E⟩ hb
  rw [checkQ_zero hq] at hck
  unfold v3 at hck ⊢
  have hin := fun n lo hi W => (rin5_any n lo hi W).mono (R' := fun e w' => e = .returned (.bool (inB n lo hi)) ∧ w' = W) fun e w' h => ⟨h.1, h.2.symm⟩
  have had := fun n W => (address_any n W).mono (R' := fun e w' => e = .returned (.bool (addrB n)) ∧ w' = W) fun e w' h => ⟨h.1, h.2.symm⟩
  have hwd := fun n W => (word_any n W).mono (R' := fun e w' => e = .returned (.bool (wordB n)) ∧ w' = W) fun e w' h => ⟨h.1, h.2.symm⟩
  have hhf := fun W => (rhalf_any W).mono (R' := fun e w' => e = .returned (.int .i64 140737488355328) ∧ w' = W) fun e w' h => ⟨h.1, h.2.symm⟩
  clear i1 i2 i3 hb hq
  go_enter Try.func46, Try.ntmps46
  go_wp2_with fail
  refine (hck _ (by repeat (first | with_reducible exact Ext.refl _ | with_reducible refine Ext.alloc ?_ _ | with_reducible refine Below.drew ?_))).mono ?_
  rintro e w1 ⟨rfl, E1⟩
  have P := Blk.of E1
  have u0 := Blk.c P 0 (v := .slice a1 s.store.length c1) rfl
  have u1 := Blk.c P 1 (v := .slice a2 s.tape.length c2) rfl
  have u2 := Blk.c P 2 (v := .int .i64 s.taken) rfl
  have u3 := Blk.c P 3 (v := .slice a3 s.printed.length c3) rfl
  have u4 := Blk.c P 4 (v := .int .i64 s.clock) rfl
  have u5 := Blk.c P 5 (v := .int .i64 s.at_) rfl
  have u6 := Blk.c P 6 (v := .int .i64 s.phase) rfl
  have u7 := Blk.c P 7 (v := .int .i64 s.order) rfl
  have u8 := Blk.c P 8 (v := .int .i64 s.operand) rfl
  have u9 := Blk.c P 9 (v := .int .i64 s.other) rfl
  have u10 := Blk.c P 10 (v := .int .i64 s.product) rfl
  have u11 := Blk.c P 11 (v := .int .i64 s.count) rfl
  have u12 := Blk.c P 12 (v := .int .i64 s.done) rfl
  have u13 := Blk.c P 13 (v := .int .i64 s.why) rfl
  have hz0 : w.heap.size < w1.heap.size := P.lt
  go_wp2_with fail
  refine wp_region_quiet_lit (by kernel_rfl) (by kernel_rfl) ?_
  simp only [List.append_eq, List.cons_append, List.nil_append]
  repeat (go_big_quiet_step (first | (go_at_call 67; exact Calls.quiet_of_same (hin _ _ _ _)) | (go_at_call 54; exact Calls.quiet_of_same (had _ _)) | (go_at_call 41; exact Calls.quiet_of_same (hwd _ _)) | (go_at_call 82; exact Calls.quiet_of_same (hhf _))))
  refine wpQuiet_nil ?_
  intro _ hw'
  obtain ⟨nq, hw''⟩ := hw'
  subst hw''
  go_wp2_with fail
  go_ret3
  exact ⟨rfl, (by repeat (first | with_reducible exact Ext.refl _ | with_reducible exact E1 | with_reducible exact E1.old | with_reducible exact E1.old.old | with_reducible exact E1.old.old.old | (with_reducible refine Ext.alloc ?_ _) | (with_reducible refine Below.drew ?_) | (with_reducible refine below_drewN ?_ _) | (with_reducible refine ext_put ?_ _ ?_; rotate_left; (first | with_reducible exact Nat.le_refl _ | with_reducible exact Nat.le_succ _ | omega | (dsimp only; omega)))))⟩
set_option maxRecDepth 100000 in
set_option maxHeartbeats 16000000 in
theorem rcheck5_3 (a1 a2 a3 : Option Addr) (c1 c2 c3 : Nat) (s : Pu) (w : World) (i1 : IntsAt w a1 s.store) (i2 : IntsAt w a2 s.tape) (i3 : IntsAt w a3 s.printed) (hb : PuBd s) (hq : (checkQ (base4 s)).2.2 = 0) (g0 : inB s.taken 0 s.tape.length = true) (g1 : inB s.clock 0 1000000000 = true) (g2 : addrB s.at_ = true) (g3 : inB s.phase 0 4 = false) :
    Calls Try.prog 46 #[psv a1 a2 a3 s.store.length c1 s.tape.length c2 s.printed.length c3 s] w fun e w' => e = .returned (v3 (5, 0, 7)) ∧ Ext w w' := by
  have hck : ∀ W, Ext w W → Calls Try.prog 81 #[.agg #[.slice a1 s.store.length c1, .slice a2 s.tape.length c2, .int .i64 0, .slice a3 s.printed.length c3, .int .i64 0, .int .i64 0, .int .i64 0, .int .i64 0]] W fun e w' => e = .returned (v3 (checkQ (base4 s))) ∧ Ext W w' := fun W E =>
    rcheck_any _ (base4 s) W ⟨a1, a2, a3, c1, c2, c3, rfl, i1.ext E, i2.ext E, i3.ext E⟩ hb
  rw [checkQ_zero hq] at hck
  unfold v3 at hck ⊢
  have hin := fun n lo hi W => (rin5_any n lo hi W).mono (R' := fun e w' => e = .returned (.bool (inB n lo hi)) ∧ w' = W) fun e w' h => ⟨h.1, h.2.symm⟩
  have had := fun n W => (address_any n W).mono (R' := fun e w' => e = .returned (.bool (addrB n)) ∧ w' = W) fun e w' h => ⟨h.1, h.2.symm⟩
  have hwd := fun n W => (word_any n W).mono (R' := fun e w' => e = .returned (.bool (wordB n)) ∧ w' = W) fun e w' h => ⟨h.1, h.2.symm⟩
  have hhf := fun W => (rhalf_any W).mono (R' := fun e w' => e = .returned (.int .i64 140737488355328) ∧ w' = W) fun e w' h => ⟨h.1, h.2.symm⟩
  clear i1 i2 i3 hb hq
  go_enter Try.func46, Try.ntmps46
  go_wp2_with fail
  refine (hck _ (by repeat (first | with_reducible exact Ext.refl _ | with_reducible refine Ext.alloc ?_ _ | with_reducible refine Below.drew ?_))).mono ?_
  rintro e w1 ⟨rfl, E1⟩
  have P := Blk.of E1
  have u0 := Blk.c P 0 (v := .slice a1 s.store.length c1) rfl
  have u1 := Blk.c P 1 (v := .slice a2 s.tape.length c2) rfl
  have u2 := Blk.c P 2 (v := .int .i64 s.taken) rfl
  have u3 := Blk.c P 3 (v := .slice a3 s.printed.length c3) rfl
  have u4 := Blk.c P 4 (v := .int .i64 s.clock) rfl
  have u5 := Blk.c P 5 (v := .int .i64 s.at_) rfl
  have u6 := Blk.c P 6 (v := .int .i64 s.phase) rfl
  have u7 := Blk.c P 7 (v := .int .i64 s.order) rfl
  have u8 := Blk.c P 8 (v := .int .i64 s.operand) rfl
  have u9 := Blk.c P 9 (v := .int .i64 s.other) rfl
  have u10 := Blk.c P 10 (v := .int .i64 s.product) rfl
  have u11 := Blk.c P 11 (v := .int .i64 s.count) rfl
  have u12 := Blk.c P 12 (v := .int .i64 s.done) rfl
  have u13 := Blk.c P 13 (v := .int .i64 s.why) rfl
  have hz0 : w.heap.size < w1.heap.size := P.lt
  go_wp2_with fail
  refine wp_region_quiet_lit (by kernel_rfl) (by kernel_rfl) ?_
  simp only [List.append_eq, List.cons_append, List.nil_append]
  repeat (go_big_quiet_step (first | (go_at_call 67; exact Calls.quiet_of_same (hin _ _ _ _)) | (go_at_call 54; exact Calls.quiet_of_same (had _ _)) | (go_at_call 41; exact Calls.quiet_of_same (hwd _ _)) | (go_at_call 82; exact Calls.quiet_of_same (hhf _))))
  refine wpQuiet_nil ?_
  intro _ hw'
  obtain ⟨nq, hw''⟩ := hw'
  subst hw''
  go_wp2_with fail
  go_ret3
  exact ⟨rfl, (by repeat (first | with_reducible exact Ext.refl _ | with_reducible exact E1 | with_reducible exact E1.old | with_reducible exact E1.old.old | with_reducible exact E1.old.old.old | (with_reducible refine Ext.alloc ?_ _) | (with_reducible refine Below.drew ?_) | (with_reducible refine below_drewN ?_ _) | (with_reducible refine ext_put ?_ _ ?_; rotate_left; (first | with_reducible exact Nat.le_refl _ | with_reducible exact Nat.le_succ _ | omega | (dsimp only; omega)))))⟩
set_option maxRecDepth 100000 in
set_option maxHeartbeats 16000000 in
theorem rcheck5_4 (a1 a2 a3 : Option Addr) (c1 c2 c3 : Nat) (s : Pu) (w : World) (i1 : IntsAt w a1 s.store) (i2 : IntsAt w a2 s.tape) (i3 : IntsAt w a3 s.printed) (hb : PuBd s) (hq : (checkQ (base4 s)).2.2 = 0) (g0 : inB s.taken 0 s.tape.length = true) (g1 : inB s.clock 0 1000000000 = true) (g2 : addrB s.at_ = true) (g3 : inB s.phase 0 4 = true) (g4 : wordB s.order = false) :
    Calls Try.prog 46 #[psv a1 a2 a3 s.store.length c1 s.tape.length c2 s.printed.length c3 s] w fun e w' => e = .returned (v3 (5, 0, 7)) ∧ Ext w w' := by
  have hck : ∀ W, Ext w W → Calls Try.prog 81 #[.agg #[.slice a1 s.store.length c1, .slice a2 s.tape.length c2, .int .i64 0, .slice a3 s.printed.length c3, .int .i64 0, .int .i64 0, .int .i64 0, .int .i64 0]] W fun e w' => e = .returned (v3 (checkQ (base4 s))) ∧ Ext W w' := fun W E =>
    rcheck_any _ (base4 s) W ⟨a1, a2, a3, c1, c2, c3, rfl, i1.ext E, i2.ext E, i3.ext E⟩ hb
  rw [checkQ_zero hq] at hck
  unfold v3 at hck ⊢
  have hin := fun n lo hi W => (rin5_any n lo hi W).mono (R' := fun e w' => e = .returned (.bool (inB n lo hi)) ∧ w' = W) fun e w' h => ⟨h.1, h.2.symm⟩
  have had := fun n W => (address_any n W).mono (R' := fun e w' => e = .returned (.bool (addrB n)) ∧ w' = W) fun e w' h => ⟨h.1, h.2.symm⟩
  have hwd := fun n W => (word_any n W).mono (R' := fun e w' => e = .returned (.bool (wordB n)) ∧ w' = W) fun e w' h => ⟨h.1, h.2.symm⟩
  have hhf := fun W => (rhalf_any W).mono (R' := fun e w' => e = .returned (.int .i64 140737488355328) ∧ w' = W) fun e w' h => ⟨h.1, h.2.symm⟩
  clear i1 i2 i3 hb hq
  go_enter Try.func46, Try.ntmps46
  go_wp2_with fail
  refine (hck _ (by repeat (first | with_reducible exact Ext.refl _ | with_reducible refine Ext.alloc ?_ _ | with_reducible refine Below.drew ?_))).mono ?_
  rintro e w1 ⟨rfl, E1⟩
  have P := Blk.of E1
  have u0 := Blk.c P 0 (v := .slice a1 s.store.length c1) rfl
  have u1 := Blk.c P 1 (v := .slice a2 s.tape.length c2) rfl
  have u2 := Blk.c P 2 (v := .int .i64 s.taken) rfl
  have u3 := Blk.c P 3 (v := .slice a3 s.printed.length c3) rfl
  have u4 := Blk.c P 4 (v := .int .i64 s.clock) rfl
  have u5 := Blk.c P 5 (v := .int .i64 s.at_) rfl
  have u6 := Blk.c P 6 (v := .int .i64 s.phase) rfl
  have u7 := Blk.c P 7 (v := .int .i64 s.order) rfl
  have u8 := Blk.c P 8 (v := .int .i64 s.operand) rfl
  have u9 := Blk.c P 9 (v := .int .i64 s.other) rfl
  have u10 := Blk.c P 10 (v := .int .i64 s.product) rfl
  have u11 := Blk.c P 11 (v := .int .i64 s.count) rfl
  have u12 := Blk.c P 12 (v := .int .i64 s.done) rfl
  have u13 := Blk.c P 13 (v := .int .i64 s.why) rfl
  have hz0 : w.heap.size < w1.heap.size := P.lt
  go_wp2_with fail
  refine wp_region_quiet_lit (by kernel_rfl) (by kernel_rfl) ?_
  simp only [List.append_eq, List.cons_append, List.nil_append]
  repeat (go_big_quiet_step (first | (go_at_call 67; exact Calls.quiet_of_same (hin _ _ _ _)) | (go_at_call 54; exact Calls.quiet_of_same (had _ _)) | (go_at_call 41; exact Calls.quiet_of_same (hwd _ _)) | (go_at_call 82; exact Calls.quiet_of_same (hhf _))))
  refine wpQuiet_nil ?_
  intro _ hw'
  obtain ⟨nq, hw''⟩ := hw'
  subst hw''
  go_wp2_with fail
  go_ret3
  exact ⟨rfl, (by repeat (first | with_reducible exact Ext.refl _ | with_reducible exact E1 | with_reducible exact E1.old | with_reducible exact E1.old.old | with_reducible exact E1.old.old.old | (with_reducible refine Ext.alloc ?_ _) | (with_reducible refine Below.drew ?_) | (with_reducible refine below_drewN ?_ _) | (with_reducible refine ext_put ?_ _ ?_; rotate_left; (first | with_reducible exact Nat.le_refl _ | with_reducible exact Nat.le_succ _ | omega | (dsimp only; omega)))))⟩
set_option maxRecDepth 100000 in
set_option maxHeartbeats 16000000 in
theorem rcheck5_5 (a1 a2 a3 : Option Addr) (c1 c2 c3 : Nat) (s : Pu) (w : World) (i1 : IntsAt w a1 s.store) (i2 : IntsAt w a2 s.tape) (i3 : IntsAt w a3 s.printed) (hb : PuBd s) (hq : (checkQ (base4 s)).2.2 = 0) (g0 : inB s.taken 0 s.tape.length = true) (g1 : inB s.clock 0 1000000000 = true) (g2 : addrB s.at_ = true) (g3 : inB s.phase 0 4 = true) (g4 : wordB s.order = true) (g5 : wordB s.operand = false) :
    Calls Try.prog 46 #[psv a1 a2 a3 s.store.length c1 s.tape.length c2 s.printed.length c3 s] w fun e w' => e = .returned (v3 (5, 0, 7)) ∧ Ext w w' := by
  have hck : ∀ W, Ext w W → Calls Try.prog 81 #[.agg #[.slice a1 s.store.length c1, .slice a2 s.tape.length c2, .int .i64 0, .slice a3 s.printed.length c3, .int .i64 0, .int .i64 0, .int .i64 0, .int .i64 0]] W fun e w' => e = .returned (v3 (checkQ (base4 s))) ∧ Ext W w' := fun W E =>
    rcheck_any _ (base4 s) W ⟨a1, a2, a3, c1, c2, c3, rfl, i1.ext E, i2.ext E, i3.ext E⟩ hb
  rw [checkQ_zero hq] at hck
  unfold v3 at hck ⊢
  have hin := fun n lo hi W => (rin5_any n lo hi W).mono (R' := fun e w' => e = .returned (.bool (inB n lo hi)) ∧ w' = W) fun e w' h => ⟨h.1, h.2.symm⟩
  have had := fun n W => (address_any n W).mono (R' := fun e w' => e = .returned (.bool (addrB n)) ∧ w' = W) fun e w' h => ⟨h.1, h.2.symm⟩
  have hwd := fun n W => (word_any n W).mono (R' := fun e w' => e = .returned (.bool (wordB n)) ∧ w' = W) fun e w' h => ⟨h.1, h.2.symm⟩
  have hhf := fun W => (rhalf_any W).mono (R' := fun e w' => e = .returned (.int .i64 140737488355328) ∧ w' = W) fun e w' h => ⟨h.1, h.2.symm⟩
  clear i1 i2 i3 hb hq
  go_enter Try.func46, Try.ntmps46
  go_wp2_with fail
  refine (hck _ (by repeat (first | with_reducible exact Ext.refl _ | with_reducible refine Ext.alloc ?_ _ | with_reducible refine Below.drew ?_))).mono ?_
  rintro e w1 ⟨rfl, E1⟩
  have P := Blk.of E1
  have u0 := Blk.c P 0 (v := .slice a1 s.store.length c1) rfl
  have u1 := Blk.c P 1 (v := .slice a2 s.tape.length c2) rfl
  have u2 := Blk.c P 2 (v := .int .i64 s.taken) rfl
  have u3 := Blk.c P 3 (v := .slice a3 s.printed.length c3) rfl
  have u4 := Blk.c P 4 (v := .int .i64 s.clock) rfl
  have u5 := Blk.c P 5 (v := .int .i64 s.at_) rfl
  have u6 := Blk.c P 6 (v := .int .i64 s.phase) rfl
  have u7 := Blk.c P 7 (v := .int .i64 s.order) rfl
  have u8 := Blk.c P 8 (v := .int .i64 s.operand) rfl
  have u9 := Blk.c P 9 (v := .int .i64 s.other) rfl
  have u10 := Blk.c P 10 (v := .int .i64 s.product) rfl
  have u11 := Blk.c P 11 (v := .int .i64 s.count) rfl
  have u12 := Blk.c P 12 (v := .int .i64 s.done) rfl
  have u13 := Blk.c P 13 (v := .int .i64 s.why) rfl
  have hz0 : w.heap.size < w1.heap.size := P.lt
  go_wp2_with fail
  refine wp_region_quiet_lit (by kernel_rfl) (by kernel_rfl) ?_
  simp only [List.append_eq, List.cons_append, List.nil_append]
  repeat (go_big_quiet_step (first | (go_at_call 67; exact Calls.quiet_of_same (hin _ _ _ _)) | (go_at_call 54; exact Calls.quiet_of_same (had _ _)) | (go_at_call 41; exact Calls.quiet_of_same (hwd _ _)) | (go_at_call 82; exact Calls.quiet_of_same (hhf _))))
  refine wpQuiet_nil ?_
  intro _ hw'
  obtain ⟨nq, hw''⟩ := hw'
  subst hw''
  go_wp2_with fail
  go_ret3
  exact ⟨rfl, (by repeat (first | with_reducible exact Ext.refl _ | with_reducible exact E1 | with_reducible exact E1.old | with_reducible exact E1.old.old | with_reducible exact E1.old.old.old | (with_reducible refine Ext.alloc ?_ _) | (with_reducible refine Below.drew ?_) | (with_reducible refine below_drewN ?_ _) | (with_reducible refine ext_put ?_ _ ?_; rotate_left; (first | with_reducible exact Nat.le_refl _ | with_reducible exact Nat.le_succ _ | omega | (dsimp only; omega)))))⟩
end Go.Proofs.Ytjfggepgjpdebaa
