import Derived.Deep.QuietTactic
import Derived.BigQuiet
import Derived.Outline
import Derived.Test.YtjfggepgjpdebaaM23
import Derived.Test.YtjfggepgjpdebaaM0
import Derived.Test.YtjfggepgjpdebaaM9
import Derived.Test.YtjfggepgjpdebaaM24
import Derived.Test.YtjfggepgjpdebaaM25
set_option linter.unusedVariables false
set_option linter.unusedSimpArgs false
/- Contract: the reference of layer 5: Check (all fields are in their ranges). -/
namespace Go.Proofs.Ytjfggepgjpdebaa
open Go.RowKit Go.Q
set_option maxRecDepth 100000 in
set_option maxHeartbeats 16000000 in
theorem rcheck5_in (a1 a2 a3 : Option Addr) (c1 c2 c3 : Nat) (s : Pu) (w : World) (i1 : IntsAt w a1 s.store) (i2 : IntsAt w a2 s.tape) (i3 : IntsAt w a3 s.printed) (hb : PuBd s) (hq : (checkQ (base4 s)).2.2 = 0) (g0 : inB s.taken 0 s.tape.length = true) (g1 : inB s.clock 0 1000000000 = true) (g2 : addrB s.at_ = true) (g3 : inB s.phase 0 4 = true) (g4 : wordB s.order = true) (g5 : wordB s.operand = true) (g6 : wordB s.other = true) (g7 : inB s.product (-140737488355328) 140737488355327 = true) (g8 : inB s.done 0 s.clock = true) (g9 : inB s.why 0 4 = true) (g10 : inB s.count 0 12 = true) (c : Bool) (hft : ∀ W, Calls Try.prog 83 #[psv a1 a2 a3 s.store.length c1 s.tape.length c2 s.printed.length c3 s] W fun e w' => e = .returned (.bool c) ∧ Ext W w') :
    Calls Try.prog 46 #[psv a1 a2 a3 s.store.length c1 s.tape.length c2 s.printed.length c3 s] w fun e w' => e = .returned (v3 (if c = true then (0, 0, 0) else (6, 0, 2))) ∧ Ext w w' := by
  have hck : ∀ W, Ext w W → Calls Try.prog 81 #[.agg #[.slice a1 s.store.length c1, .slice a2 s.tape.length c2, .int .i64 0, .slice a3 s.printed.length c3, .int .i64 0, .int .i64 0, .int .i64 0, .int .i64 0]] W fun e w' => e = .returned (v3 (checkQ (base4 s))) ∧ Ext W w' := fun W E =>
    rcheck_any _ (base4 s) W ⟨a1, a2, a3, c1, c2, c3, rfl, i1.ext E, i2.ext E, i3.ext E⟩ hb
  rw [checkQ_zero hq] at hck
  unfold v3 at hck ⊢
  have hin := fun n lo hi W => (rin5_any n lo hi W).mono (R' := fun e w' => e = .returned (.bool (inB n lo hi)) ∧ w' = W) fun e w' h => ⟨h.1, h.2.symm⟩
  have had := fun n W => (address_any n W).mono (R' := fun e w' => e = .returned (.bool (addrB n)) ∧ w' = W) fun e w' h => ⟨h.1, h.2.symm⟩
  have hwd := fun n W => (word_any n W).mono (R' := fun e w' => e = .returned (.bool (wordB n)) ∧ w' = W) fun e w' h => ⟨h.1, h.2.symm⟩
  have hhf := fun W => (rhalf_any W).mono (R' := fun e w' => e = .returned (.int .i64 140737488355328) ∧ w' = W) fun e w' h => ⟨h.1, h.2.symm⟩
  cases c with
  | true =>
    clear i1 i2 i3 hb hq
    go_enter Try.func46, Try.ntmps46
    go_wp2_with fail
    refine (hck _ (by repeat (first | with_reducible exact Ext.refl _ | with_reducible refine Ext.alloc ?_ _ | with_reducible refine Below.drew ?_))).mono ?_
    rintro e w1 ⟨rfl, E1⟩
    have P := Blk.of E1
    have u0 := Blk.c P 0 (v := .slice a1 s.store.length c1) rfl
    have u1 := Blk.c P 1 (v := .slice a2 s.tape.length c2) rfl
    have u2 := Blk.c P 2 (v := .int .i64 s.taken) rfl
    have u3 := Blk.c P 3 (v := .slice a3 s.printed.length c3) rfl
    have u4 := Blk.c P 4 (v := .int .i64 s.clock) rfl
    have u5 := Blk.c P 5 (v := .int .i64 s.at_) rfl
    have u6 := Blk.c P 6 (v := .int .i64 s.phase) rfl
    have u7 := Blk.c P 7 (v := .int .i64 s.order) rfl
    have u8 := Blk.c P 8 (v := .int .i64 s.operand) rfl
    have u9 := Blk.c P 9 (v := .int .i64 s.other) rfl
    have u10 := Blk.c P 10 (v := .int .i64 s.product) rfl
    have u11 := Blk.c P 11 (v := .int .i64 s.count) rfl
    have u12 := Blk.c P 12 (v := .int .i64 s.done) rfl
    have u13 := Blk.c P 13 (v := .int .i64 s.why) rfl
    have hz0 : w.heap.size < w1.heap.size := P.lt
    go_wp2_with fail
    refine wp_region_quiet_lit (by kernel_rfl) (by kernel_rfl) ?_
    simp only [List.append_eq, List.cons_append, List.nil_append]
    repeat (go_big_quiet_step (first | (go_at_call 67; exact Calls.quiet_of_same (hin _ _ _ _)) | (go_at_call 54; exact Calls.quiet_of_same (had _ _)) | (go_at_call 41; exact Calls.quiet_of_same (hwd _ _)) | (go_at_call 82; exact Calls.quiet_of_same (hhf _))))
    refine wpQuiet_nil ?_
    intro _ hw'
    obtain ⟨nq, hw''⟩ := hw'
    subst hw''
    go_wp2_with fail
    refine (hft _).mono ?_
    rintro e w2 ⟨rfl, E2⟩
    have F2 : Ext w w2 := Ext.comp (by repeat (first | with_reducible exact Ext.refl _ | with_reducible exact E1 | with_reducible exact E1.old | with_reducible exact E1.old.old | with_reducible exact E1.old.old.old | (with_reducible refine Ext.alloc ?_ _) | (with_reducible refine Below.drew ?_) | (with_reducible refine below_drewN ?_ _) | (with_reducible refine ext_put ?_ _ ?_; rotate_left; (first | with_reducible exact Nat.le_refl _ | with_reducible exact Nat.le_succ _ | omega | (dsimp only; omega))))) E2
    go_wp2_with fail
    go_ret3
    exact ⟨rfl, (by repeat (first | with_reducible exact Ext.refl _ | with_reducible exact F2 | with_reducible exact F2.old | with_reducible exact F2.old.old | with_reducible exact F2.old.old.old | (with_reducible refine Ext.alloc ?_ _) | (with_reducible refine Below.drew ?_) | (with_reducible refine below_drewN ?_ _) | (with_reducible refine ext_put ?_ _ ?_; rotate_left; (first | with_reducible exact Nat.le_refl _ | with_reducible exact Nat.le_succ _ | omega | (dsimp only; omega)))))⟩
  | false =>
    clear i1 i2 i3 hb hq
    go_enter Try.func46, Try.ntmps46
    go_wp2_with fail
    refine (hck _ (by repeat (first | with_reducible exact Ext.refl _ | with_reducible refine Ext.alloc ?_ _ | with_reducible refine Below.drew ?_))).mono ?_
    rintro e w1 ⟨rfl, E1⟩
    have P := Blk.of E1
    have u0 := Blk.c P 0 (v := .slice a1 s.store.length c1) rfl
    have u1 := Blk.c P 1 (v := .slice a2 s.tape.length c2) rfl
    have u2 := Blk.c P 2 (v := .int .i64 s.taken) rfl
    have u3 := Blk.c P 3 (v := .slice a3 s.printed.length c3) rfl
    have u4 := Blk.c P 4 (v := .int .i64 s.clock) rfl
    have u5 := Blk.c P 5 (v := .int .i64 s.at_) rfl
    have u6 := Blk.c P 6 (v := .int .i64 s.phase) rfl
    have u7 := Blk.c P 7 (v := .int .i64 s.order) rfl
    have u8 := Blk.c P 8 (v := .int .i64 s.operand) rfl
    have u9 := Blk.c P 9 (v := .int .i64 s.other) rfl
    have u10 := Blk.c P 10 (v := .int .i64 s.product) rfl
    have u11 := Blk.c P 11 (v := .int .i64 s.count) rfl
    have u12 := Blk.c P 12 (v := .int .i64 s.done) rfl
    have u13 := Blk.c P 13 (v := .int .i64 s.why) rfl
    have hz0 : w.heap.size < w1.heap.size := P.lt
    go_wp2_with fail
    refine wp_region_quiet_lit (by kernel_rfl) (by kernel_rfl) ?_
    simp only [List.append_eq, List.cons_append, List.nil_append]
    repeat (go_big_quiet_step (first | (go_at_call 67; exact Calls.quiet_of_same (hin _ _ _ _)) | (go_at_call 54; exact Calls.quiet_of_same (had _ _)) | (go_at_call 41; exact Calls.quiet_of_same (hwd _ _)) | (go_at_call 82; exact Calls.quiet_of_same (hhf _))))
    refine wpQuiet_nil ?_
    intro _ hw'
    obtain ⟨nq, hw''⟩ := hw'
    subst hw''
    go_wp2_with fail
    refine (hft _).mono ?_
    rintro e w2 ⟨rfl, E2⟩
    have F2 : Ext w w2 := Ext.comp (by repeat (first | with_reducible exact Ext.refl _ | with_reducible exact E1 | with_reducible exact E1.old | with_reducible exact E1.old.old | with_reducible exact E1.old.old.old | (with_reducible refine Ext.alloc ?_ _) | (with_reducible refine Below.drew ?_) | (with_reducible refine below_drewN ?_ _) | (with_reducible refine ext_put ?_ _ ?_; rotate_left; (first | with_reducible exact Nat.le_refl _ | with_reducible exact Nat.le_succ _ | omega | (dsimp only; omega))))) E2
    go_wp2_with fail
    go_ret3
    exact ⟨rfl, (by repeat (first | with_reducible exact Ext.refl _ | with_reducible exact F2 | with_reducible exact F2.old | with_reducible exact F2.old.old | with_reducible exact F2.old.old.old | (with_reducible refine Ext.alloc ?_ _) | (with_reducible refine Below.drew ?_) | (with_reducible refine below_drewN ?_ _) | (with_reducible refine ext_put ?_ _ ?_; rotate_left; (first | with_reducible exact Nat.le_refl _ | with_reducible exact Nat.le_succ _ | omega | (dsimp only; omega)))))⟩
end Go.Proofs.Ytjfggepgjpdebaa
/- Contract: the reference of layer 5: Check. -/
namespace Go.Proofs.Ytjfggepgjpdebaa
open Go.RowKit Go.Q
set_option maxRecDepth 100000 in
set_option maxHeartbeats 16000000 in
theorem rcheck5_bad (a1 a2 a3 : Option Addr) (c1 c2 c3 : Nat) (s : Pu) (w : World) (i1 : IntsAt w a1 s.store) (i2 : IntsAt w a2 s.tape) (i3 : IntsAt w a3 s.printed) (hb : PuBd s) (hq : (checkQ (base4 s)).2.2 ≠ 0) :
    Calls Try.prog 46 #[psv a1 a2 a3 s.store.length c1 s.tape.length c2 s.printed.length c3 s] w fun e w' => e = .returned (v3 (checkQ (base4 s))) ∧ Ext w w' := by
  have hck : ∀ W, Ext w W → Calls Try.prog 81 #[.agg #[.slice a1 s.store.length c1, .slice a2 s.tape.length c2, .int .i64 0, .slice a3 s.printed.length c3, .int .i64 0, .int .i64 0, .int .i64 0, .int .i64 0]] W fun e w' => e = .returned (v3 (checkQ (base4 s))) ∧ Ext W w' := fun W E =>
    rcheck_any _ (base4 s) W ⟨a1, a2, a3, c1, c2, c3, rfl, i1.ext E, i2.ext E, i3.ext E⟩ hb
  generalize checkQ (base4 s) = p at *
  obtain ⟨p, i, er⟩ := p
  unfold v3 at hck ⊢
  dsimp only at hq hck ⊢
  have hz : (er != 0) = true := by simpa using hq
  clear i1 i2 i3 hb hq
  go_enter Try.func46, Try.ntmps46
  go_wp2_with fail
  refine (hck _ (by repeat (first | with_reducible exact Ext.refl _ | with_reducible refine Ext.alloc ?_ _ | with_reducible refine Below.drew ?_))).mono ?_
  rintro e w1 ⟨rfl, E1⟩
  go_wp2_with fail
  go_ret3
  exact ⟨rfl, (by repeat (first | with_reducible exact Ext.refl _ | with_reducible exact E1 | with_reducible exact E1.old | with_reducible exact E1.old.old | with_reducible exact E1.old.old.old | (with_reducible refine Ext.alloc ?_ _) | (with_reducible refine Below.drew ?_) | (with_reducible refine below_drewN ?_ _) | (with_reducible refine ext_put ?_ _ ?_; rotate_left; (first | with_reducible exact Nat.le_refl _ | with_reducible exact Nat.le_succ _ | omega | (dsimp only; omega)))))⟩
theorem rcheck5_any (v : Value) (s : Pu) (w : World) (h : PuAt w v s) (hb : PuBd s) : Calls Try.prog 46 #[v] w fun e w' => e = .returned (v3 (checkP s)) ∧ Ext w w' := by
  obtain ⟨a1, a2, a3, c1, c2, c3, rfl, i1, i2, i3⟩ := h
  by_cases hq : (checkQ (base4 s)).2.2 = 0
  · have e : checkP s = if fieldsP s = false then (5, 0, 7) else if cntB s = false ∨ fitsB s = false then (6, 0, 2) else (0, 0, 0) := by unfold checkP; rw [if_neg (by omega)]
    have ef : fieldsP s = (inB s.taken 0 s.tape.length && inB s.clock 0 1000000000 && addrB s.at_ && inB s.phase 0 4 && wordB s.order && wordB s.operand && wordB s.other && inB s.product (-140737488355328) 140737488355327 && inB s.done 0 s.clock && inB s.why 0 4 && inB s.count 0 12) := rfl
    rw [e]
    clear e
    have V := valid_of_check hq
    cases g0 : inB s.taken 0 s.tape.length with
    | false =>
      have e5 : fieldsP s = false := by rw [ef]; simp [g0]
      rw [if_pos e5]
      exact rcheck5_0 a1 a2 a3 c1 c2 c3 s w i1 i2 i3 hb hq g0
    | true =>
      cases g1 : inB s.clock 0 1000000000 with
      | false =>
        have e5 : fieldsP s = false := by rw [ef]; simp [g0, g1]
        rw [if_pos e5]
        exact rcheck5_1 a1 a2 a3 c1 c2 c3 s w i1 i2 i3 hb hq g0 g1
      | true =>
        cases g2 : addrB s.at_ with
        | false =>
          have e5 : fieldsP s = false := by rw [ef]; simp [g0, g1, g2]
          rw [if_pos e5]
          exact rcheck5_2 a1 a2 a3 c1 c2 c3 s w i1 i2 i3 hb hq g0 g1 g2
        | true =>
          cases g3 : inB s.phase 0 4 with
          | false =>
            have e5 : fieldsP s = false := by rw [ef]; simp [g0, g1, g2, g3]
            rw [if_pos e5]
            exact rcheck5_3 a1 a2 a3 c1 c2 c3 s w i1 i2 i3 hb hq g0 g1 g2 g3
          | true =>
            cases g4 : wordB s.order with
            | false =>
              have e5 : fieldsP s = false := by rw [ef]; simp [g0, g1, g2, g3, g4]
              rw [if_pos e5]
              exact rcheck5_4 a1 a2 a3 c1 c2 c3 s w i1 i2 i3 hb hq g0 g1 g2 g3 g4
            | true =>
              cases g5 : wordB s.operand with
              | false =>
                have e5 : fieldsP s = false := by rw [ef]; simp [g0, g1, g2, g3, g4, g5]
                rw [if_pos e5]
                exact rcheck5_5 a1 a2 a3 c1 c2 c3 s w i1 i2 i3 hb hq g0 g1 g2 g3 g4 g5
              | true =>
                cases g6 : wordB s.other with
                | false =>
                  have e5 : fieldsP s = false := by rw [ef]; simp [g0, g1, g2, g3, g4, g5, g6]
                  rw [if_pos e5]
                  exact rcheck5_6 a1 a2 a3 c1 c2 c3 s w i1 i2 i3 hb hq g0 g1 g2 g3 g4 g5 g6
                | true =>
                  cases g7 : inB s.product (-140737488355328) 140737488355327 with
                  | false =>
                    have e5 : fieldsP s = false := by rw [ef]; simp [g0, g1, g2, g3, g4, g5, g6, g7]
                    rw [if_pos e5]
                    exact rcheck5_7 a1 a2 a3 c1 c2 c3 s w i1 i2 i3 hb hq g0 g1 g2 g3 g4 g5 g6 g7
                  | true =>
                    cases g8 : inB s.done 0 s.clock with
                    | false =>
                      have e5 : fieldsP s = false := by rw [ef]; simp [g0, g1, g2, g3, g4, g5, g6, g7, g8]
                      rw [if_pos e5]
                      exact rcheck5_8 a1 a2 a3 c1 c2 c3 s w i1 i2 i3 hb hq g0 g1 g2 g3 g4 g5 g6 g7 g8
                    | true =>
                      cases g9 : inB s.why 0 4 with
                      | false =>
                        have e5 : fieldsP s = false := by rw [ef]; simp [g0, g1, g2, g3, g4, g5, g6, g7, g8, g9]
                        rw [if_pos e5]
                        exact rcheck5_9 a1 a2 a3 c1 c2 c3 s w i1 i2 i3 hb hq g0 g1 g2 g3 g4 g5 g6 g7 g8 g9
                      | true =>
                        cases g10 : inB s.count 0 12 with
                        | false =>
                          have e5 : fieldsP s = false := by rw [ef]; simp [g0, g1, g2, g3, g4, g5, g6, g7, g8, g9, g10]
                          rw [if_pos e5]
                          exact rcheck5_10 a1 a2 a3 c1 c2 c3 s w i1 i2 i3 hb hq g0 g1 g2 g3 g4 g5 g6 g7 g8 g9 g10
                        | true =>
                          have e5 : ¬ fieldsP s = false := by rw [ef]; simp [g0, g1, g2, g3, g4, g5, g6, g7, g8, g9, g10]
                          rw [if_neg e5]
                          have wo : 0 ≤ s.order ∧ s.order ≤ 16777215 := by simpa [wordB, inB] using g4
                          have hft := fun W => rfits_any a1 a2 a3 s.store.length c1 c2 c3 s W wo (inB_bd g3) ⟨V.tlen, V.plen⟩
                          have hr := rcheck5_in a1 a2 a3 c1 c2 c3 s w i1 i2 i3 hb hq g0 g1 g2 g3 g4 g5 g6 g7 g8 g9 g10 _ hft
                          have er : (if (cntB s && fitsB s) = true then ((0, 0, 0) : Int × Int × Int) else (6, 0, 2)) = if cntB s = false ∨ fitsB s = false then (6, 0, 2) else (0, 0, 0) := by
                            cases cntB s <;> cases fitsB s <;> rfl
                          rw [er] at hr
                          exact hr
  · have e : checkP s = checkQ (base4 s) := by unfold checkP; rw [if_pos hq]
    rw [e]
    exact rcheck5_bad a1 a2 a3 c1 c2 c3 s w i1 i2 i3 hb hq
end Go.Proofs.Ytjfggepgjpdebaa
