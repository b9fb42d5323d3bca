import Derived.Test.YtjfggepgjpdebaaM28
set_option linter.unusedVariables false
set_option linter.unusedSimpArgs false
/- Contract: the reference of layer 5: fetched. -/
namespace Go.Proofs.Ytjfggepgjpdebaa
open Go.RowKit Go.Q
set_option maxRecDepth 100000 in
set_option maxHeartbeats 4000000 in
theorem rfetched_any (a1 a2 a3 : Option Addr) (n1 c1 c2 c3 : Nat) (s : Pu) (x : Int) (w : World) (hx : 0 ≤ x ∧ x ≤ 16777215) :
    Calls Try.prog 131 #[psv a1 a2 a3 n1 c1 s.tape.length c2 s.printed.length c3 s, .int .i64 x] w fun e w' => e = .returned (psv a1 a2 a3 n1 c1 s.tape.length c2 s.printed.length c3 (fetchP s x)) ∧ Ext w w' := by
  have he : ∀ W, Calls Try.prog 140 #[psv a1 a2 a3 n1 c1 s.tape.length c2 s.printed.length c3 { s with order := x }] W fun e w' => e = .returned (.int .i64 (whyP s (decodeQ x))) ∧ Ext W w' := fun W => rends_any a1 a2 a3 n1 c1 c2 c3 { s with order := x } W hx
  have hdd := fun W => rdec_ord hx W
  have ef : fetchP s x = if whyP s (decodeQ x) ≠ 0 then { s with why := whyP s (decodeQ x) } else { s with order := x, phase := if (decodeQ x).op = 6 then 2 else 1 } := rfl
  rw [ef]
  clear ef
  generalize whyP s (decodeQ x) = y at *
  generalize decodeQ x = o at *
  generalize hn2 : s.tape.length = n2 at *
  generalize hn3 : s.printed.length = n3 at *
  clear hn2 hn3
  by_cases h0 : y = 0
  · subst h0
    rw [if_neg (by simp)]
    by_cases h6 : o.op = 6
    · rw [if_pos h6]
      have b6 : (o.op == 6) = true := by simpa using h6
      clear h6
      go_enter Try.func131, Try.ntmps131
      go_wp2_with fail
      refine (he _).mono ?_
      rintro e w1 ⟨rfl, E1⟩
      have R := Blk.of E1.old
      have S := Blk.of E1
      rw [World.size_alloc] at R
      simp only [World.size_alloc] at S
      have q0 := Blk.c R 0 (v := .slice none 0 0) rfl
      have q1 := Blk.c R 1 (v := .slice none 0 0) rfl
      have q2 := Blk.c R 2 (v := .int .i64 0) rfl
      have q3 := Blk.c R 3 (v := .slice none 0 0) rfl
      have q4 := Blk.c R 4 (v := .int .i64 0) rfl
      have q5 := Blk.c R 5 (v := .int .i64 0) rfl
      have q6 := Blk.c R 6 (v := .int .i64 0) rfl
      have q7 := Blk.c R 7 (v := .int .i64 0) rfl
      have q8 := Blk.c R 8 (v := .int .i64 0) rfl
      have q9 := Blk.c R 9 (v := .int .i64 0) rfl
      have q10 := Blk.c R 10 (v := .int .i64 0) rfl
      have q11 := Blk.c R 11 (v := .int .i64 0) rfl
      have q12 := Blk.c R 12 (v := .int .i64 0) rfl
      have q13 := Blk.c R 13 (v := .int .i64 0) rfl
      have f0 := Blk.f R 0
      have f1 := Blk.f R 1
      have f2 := Blk.f R 2
      have f3 := Blk.f R 3
      have f4 := Blk.f R 4
      have f5 := Blk.f R 5
      have f6 := Blk.f R 6
      have f7 := Blk.f R 7
      have f8 := Blk.f R 8
      have f9 := Blk.f R 9
      have f10 := Blk.f R 10
      have f11 := Blk.f R 11
      have f12 := Blk.f R 12
      have f13 := Blk.f R 13
      have u0 := Blk.c S 0 (v := .slice a1 n1 c1) rfl
      have u1 := Blk.c S 1 (v := .slice a2 n2 c2) rfl
      have u2 := Blk.c S 2 (v := .int .i64 { s with order := x }.taken) rfl
      have u3 := Blk.c S 3 (v := .slice a3 n3 c3) rfl
      have u4 := Blk.c S 4 (v := .int .i64 { s with order := x }.clock) rfl
      have u5 := Blk.c S 5 (v := .int .i64 { s with order := x }.at_) rfl
      have u6 := Blk.c S 6 (v := .int .i64 { s with order := x }.phase) rfl
      have u7 := Blk.c S 7 (v := .int .i64 { s with order := x }.order) rfl
      have u8 := Blk.c S 8 (v := .int .i64 { s with order := x }.operand) rfl
      have u9 := Blk.c S 9 (v := .int .i64 { s with order := x }.other) rfl
      have u10 := Blk.c S 10 (v := .int .i64 { s with order := x }.product) rfl
      have u11 := Blk.c S 11 (v := .int .i64 { s with order := x }.count) rfl
      have u12 := Blk.c S 12 (v := .int .i64 { s with order := x }.done) rfl
      have u13 := Blk.c S 13 (v := .int .i64 { s with order := x }.why) rfl
      have g0 := Blk.f S 0
      have g1 := Blk.f S 1
      have g2 := Blk.f S 2
      have g3 := Blk.f S 3
      have g4 := Blk.f S 4
      have g5 := Blk.f S 5
      have g6 := Blk.f S 6
      have g7 := Blk.f S 7
      have g8 := Blk.f S 8
      have g9 := Blk.f S 9
      have g10 := Blk.f S 10
      have g11 := Blk.f S 11
      have g12 := Blk.f S 12
      have g13 := Blk.f S 13
      have hz : w.heap.size + 1 + 1 < w1.heap.size := S.lt
      have hz0 : w.heap.size + 1 < w1.heap.size := R.lt
      go_wp2_with fail
      refine (hdd _).mono ?_
      rintro e w2 ⟨rfl, E2⟩
      have F2 : Ext w w2 := Ext.comp (by repeat (first | with_reducible exact Ext.refl _ | with_reducible exact E1 | with_reducible exact E1.old | with_reducible exact E1.old.old | with_reducible exact E1.old.old.old | (with_reducible refine Ext.alloc ?_ _) | (with_reducible refine Below.drew ?_) | (with_reducible refine below_drewN ?_ _) | (with_reducible refine ext_put ?_ _ ?_; rotate_left; (first | with_reducible exact Nat.le_refl _ | with_reducible exact Nat.le_succ _ | omega | (dsimp only; omega))))) E2
      have R2 := Blk.go R (by intro hblk; repeat (first | with_reducible exact hblk | with_reducible refine Blk.al ?_ _ | with_reducible refine Blk.dr ?_ | (with_reducible refine Blk.ot ?_ ?_; rotate_left; (first | omega | (dsimp only; omega))))) E2
      have S2 := Blk.go S (by intro hblk; repeat (first | with_reducible exact hblk | with_reducible refine Blk.al ?_ _ | with_reducible refine Blk.dr ?_ | (with_reducible refine Blk.ot ?_ ?_; rotate_left; (first | omega | (dsimp only; omega))))) E2
      clear q0 q1 q2 q3 q4 q5 q6 q7 q8 q9 q10 q11 q12 q13 f0 f1 f2 f3 f4 f5 f6 f7 f8 f9 f10 f11 f12 f13 u0 u1 u2 u3 u4 u5 u6 u7 u8 u9 u10 u11 u12 u13 g0 g1 g2 g3 g4 g5 g6 g7 g8 g9 g10 g11 g12 g13
      have q0 := Blk.c R2 0 (v := .slice none 0 0) rfl
      have q1 := Blk.c R2 1 (v := .slice none 0 0) rfl
      have q2 := Blk.c R2 2 (v := .int .i64 0) rfl
      have q3 := Blk.c R2 3 (v := .slice none 0 0) rfl
      have q4 := Blk.c R2 4 (v := .int .i64 0) rfl
      have q5 := Blk.c R2 5 (v := .int .i64 0) rfl
      have q6 := Blk.c R2 6 (v := .int .i64 0) rfl
      have q7 := Blk.c R2 7 (v := .int .i64 0) rfl
      have q8 := Blk.c R2 8 (v := .int .i64 0) rfl
      have q9 := Blk.c R2 9 (v := .int .i64 0) rfl
      have q10 := Blk.c R2 10 (v := .int .i64 0) rfl
      have q11 := Blk.c R2 11 (v := .int .i64 0) rfl
      have q12 := Blk.c R2 12 (v := .int .i64 0) rfl
      have q13 := Blk.c R2 13 (v := .int .i64 0) rfl
      have f0 := Blk.f R2 0
      have f1 := Blk.f R2 1
      have f2 := Blk.f R2 2
      have f3 := Blk.f R2 3
      have f4 := Blk.f R2 4
      have f5 := Blk.f R2 5
      have f6 := Blk.f R2 6
      have f7 := Blk.f R2 7
      have f8 := Blk.f R2 8
      have f9 := Blk.f R2 9
      have f10 := Blk.f R2 10
      have f11 := Blk.f R2 11
      have f12 := Blk.f R2 12
      have f13 := Blk.f R2 13
      have u0 := Blk.c S2 0 (v := .slice a1 n1 c1) rfl
      have u1 := Blk.c S2 1 (v := .slice a2 n2 c2) rfl
      have u2 := Blk.c S2 2 (v := .int .i64 { s with order := x }.taken) rfl
      have u3 := Blk.c S2 3 (v := .slice a3 n3 c3) rfl
      have u4 := Blk.c S2 4 (v := .int .i64 { s with order := x }.clock) rfl
      have u5 := Blk.c S2 5 (v := .int .i64 { s with order := x }.at_) rfl
      have u6 := Blk.c S2 6 (v := .int .i64 { s with order := x }.phase) rfl
      have u7 := Blk.c S2 7 (v := .int .i64 { s with order := x }.order) rfl
      have u8 := Blk.c S2 8 (v := .int .i64 { s with order := x }.operand) rfl
      have u9 := Blk.c S2 9 (v := .int .i64 { s with order := x }.other) rfl
      have u10 := Blk.c S2 10 (v := .int .i64 { s with order := x }.product) rfl
      have u11 := Blk.c S2 11 (v := .int .i64 { s with order := x }.count) rfl
      have u12 := Blk.c S2 12 (v := .int .i64 { s with order := x }.done) rfl
      have u13 := Blk.c S2 13 (v := .int .i64 { s with order := x }.why) rfl
      have g0 := Blk.f S2 0
      have g1 := Blk.f S2 1
      have g2 := Blk.f S2 2
      have g3 := Blk.f S2 3
      have g4 := Blk.f S2 4
      have g5 := Blk.f S2 5
      have g6 := Blk.f S2 6
      have g7 := Blk.f S2 7
      have g8 := Blk.f S2 8
      have g9 := Blk.f S2 9
      have g10 := Blk.f S2 10
      have g11 := Blk.f S2 11
      have g12 := Blk.f S2 12
      have g13 := Blk.f S2 13
      have hy : w.heap.size + 1 + 1 < w2.heap.size := S2.lt
      have hy0 : w.heap.size + 1 < w2.heap.size := R2.lt
      go_wp2_with fail
      refine bodyPost_ret (v := psv a1 a2 a3 n1 c1 n2 c2 n3 c3 { s with order := x, phase := 2 }) (by simp [results, Try.results131, go_sem, hz, hz0, hy, hy0, q0, q1, q2, q3, q4, q5, q6, q7, q8, q9, q10, q11, q12, q13]) rfl ⟨rfl, ?_⟩
      exact (by repeat (first | with_reducible exact Ext.refl _ | with_reducible exact F2 | with_reducible exact F2.old | with_reducible exact F2.old.old | with_reducible exact F2.old.old.old | (with_reducible refine Ext.alloc ?_ _) | (with_reducible refine Below.drew ?_) | (with_reducible refine below_drewN ?_ _) | (with_reducible refine ext_put ?_ _ ?_; rotate_left; (first | with_reducible exact Nat.le_refl _ | with_reducible exact Nat.le_succ _ | omega | (dsimp only; omega)))))
    · rw [if_neg h6]
      have b6 : (o.op == 6) = false := by simpa using h6
      clear h6
      go_enter Try.func131, Try.ntmps131
      go_wp2_with fail
      refine (he _).mono ?_
      rintro e w1 ⟨rfl, E1⟩
      have R := Blk.of E1.old
      have S := Blk.of E1
      rw [World.size_alloc] at R
      simp only [World.size_alloc] at S
      have q0 := Blk.c R 0 (v := .slice none 0 0) rfl
      have q1 := Blk.c R 1 (v := .slice none 0 0) rfl
      have q2 := Blk.c R 2 (v := .int .i64 0) rfl
      have q3 := Blk.c R 3 (v := .slice none 0 0) rfl
      have q4 := Blk.c R 4 (v := .int .i64 0) rfl
      have q5 := Blk.c R 5 (v := .int .i64 0) rfl
      have q6 := Blk.c R 6 (v := .int .i64 0) rfl
      have q7 := Blk.c R 7 (v := .int .i64 0) rfl
      have q8 := Blk.c R 8 (v := .int .i64 0) rfl
      have q9 := Blk.c R 9 (v := .int .i64 0) rfl
      have q10 := Blk.c R 10 (v := .int .i64 0) rfl
      have q11 := Blk.c R 11 (v := .int .i64 0) rfl
      have q12 := Blk.c R 12 (v := .int .i64 0) rfl
      have q13 := Blk.c R 13 (v := .int .i64 0) rfl
      have f0 := Blk.f R 0
      have f1 := Blk.f R 1
      have f2 := Blk.f R 2
      have f3 := Blk.f R 3
      have f4 := Blk.f R 4
      have f5 := Blk.f R 5
      have f6 := Blk.f R 6
      have f7 := Blk.f R 7
      have f8 := Blk.f R 8
      have f9 := Blk.f R 9
      have f10 := Blk.f R 10
      have f11 := Blk.f R 11
      have f12 := Blk.f R 12
      have f13 := Blk.f R 13
      have u0 := Blk.c S 0 (v := .slice a1 n1 c1) rfl
      have u1 := Blk.c S 1 (v := .slice a2 n2 c2) rfl
      have u2 := Blk.c S 2 (v := .int .i64 { s with order := x }.taken) rfl
      have u3 := Blk.c S 3 (v := .slice a3 n3 c3) rfl
      have u4 := Blk.c S 4 (v := .int .i64 { s with order := x }.clock) rfl
      have u5 := Blk.c S 5 (v := .int .i64 { s with order := x }.at_) rfl
      have u6 := Blk.c S 6 (v := .int .i64 { s with order := x }.phase) rfl
      have u7 := Blk.c S 7 (v := .int .i64 { s with order := x }.order) rfl
      have u8 := Blk.c S 8 (v := .int .i64 { s with order := x }.operand) rfl
      have u9 := Blk.c S 9 (v := .int .i64 { s with order := x }.other) rfl
      have u10 := Blk.c S 10 (v := .int .i64 { s with order := x }.product) rfl
      have u11 := Blk.c S 11 (v := .int .i64 { s with order := x }.count) rfl
      have u12 := Blk.c S 12 (v := .int .i64 { s with order := x }.done) rfl
      have u13 := Blk.c S 13 (v := .int .i64 { s with order := x }.why) rfl
      have g0 := Blk.f S 0
      have g1 := Blk.f S 1
      have g2 := Blk.f S 2
      have g3 := Blk.f S 3
      have g4 := Blk.f S 4
      have g5 := Blk.f S 5
      have g6 := Blk.f S 6
      have g7 := Blk.f S 7
      have g8 := Blk.f S 8
      have g9 := Blk.f S 9
      have g10 := Blk.f S 10
      have g11 := Blk.f S 11
      have g12 := Blk.f S 12
      have g13 := Blk.f S 13
      have hz : w.heap.size + 1 + 1 < w1.heap.size := S.lt
      have hz0 : w.heap.size + 1 < w1.heap.size := R.lt
      go_wp2_with fail
      refine (hdd _).mono ?_
      rintro e w2 ⟨rfl, E2⟩
      have F2 : Ext w w2 := Ext.comp (by repeat (first | with_reducible exact Ext.refl _ | with_reducible exact E1 | with_reducible exact E1.old | with_reducible exact E1.old.old | with_reducible exact E1.old.old.old | (with_reducible refine Ext.alloc ?_ _) | (with_reducible refine Below.drew ?_) | (with_reducible refine below_drewN ?_ _) | (with_reducible refine ext_put ?_ _ ?_; rotate_left; (first | with_reducible exact Nat.le_refl _ | with_reducible exact Nat.le_succ _ | omega | (dsimp only; omega))))) E2
      have R2 := Blk.go R (by intro hblk; repeat (first | with_reducible exact hblk | with_reducible refine Blk.al ?_ _ | with_reducible refine Blk.dr ?_ | (with_reducible refine Blk.ot ?_ ?_; rotate_left; (first | omega | (dsimp only; omega))))) E2
      have S2 := Blk.go S (by intro hblk; repeat (first | with_reducible exact hblk | with_reducible refine Blk.al ?_ _ | with_reducible refine Blk.dr ?_ | (with_reducible refine Blk.ot ?_ ?_; rotate_left; (first | omega | (dsimp only; omega))))) E2
      clear q0 q1 q2 q3 q4 q5 q6 q7 q8 q9 q10 q11 q12 q13 f0 f1 f2 f3 f4 f5 f6 f7 f8 f9 f10 f11 f12 f13 u0 u1 u2 u3 u4 u5 u6 u7 u8 u9 u10 u11 u12 u13 g0 g1 g2 g3 g4 g5 g6 g7 g8 g9 g10 g11 g12 g13
      have q0 := Blk.c R2 0 (v := .slice none 0 0) rfl
      have q1 := Blk.c R2 1 (v := .slice none 0 0) rfl
      have q2 := Blk.c R2 2 (v := .int .i64 0) rfl
      have q3 := Blk.c R2 3 (v := .slice none 0 0) rfl
      have q4 := Blk.c R2 4 (v := .int .i64 0) rfl
      have q5 := Blk.c R2 5 (v := .int .i64 0) rfl
      have q6 := Blk.c R2 6 (v := .int .i64 0) rfl
      have q7 := Blk.c R2 7 (v := .int .i64 0) rfl
      have q8 := Blk.c R2 8 (v := .int .i64 0) rfl
      have q9 := Blk.c R2 9 (v := .int .i64 0) rfl
      have q10 := Blk.c R2 10 (v := .int .i64 0) rfl
      have q11 := Blk.c R2 11 (v := .int .i64 0) rfl
      have q12 := Blk.c R2 12 (v := .int .i64 0) rfl
      have q13 := Blk.c R2 13 (v := .int .i64 0) rfl
      have f0 := Blk.f R2 0
      have f1 := Blk.f R2 1
      have f2 := Blk.f R2 2
      have f3 := Blk.f R2 3
      have f4 := Blk.f R2 4
      have f5 := Blk.f R2 5
      have f6 := Blk.f R2 6
      have f7 := Blk.f R2 7
      have f8 := Blk.f R2 8
      have f9 := Blk.f R2 9
      have f10 := Blk.f R2 10
      have f11 := Blk.f R2 11
      have f12 := Blk.f R2 12
      have f13 := Blk.f R2 13
      have u0 := Blk.c S2 0 (v := .slice a1 n1 c1) rfl
      have u1 := Blk.c S2 1 (v := .slice a2 n2 c2) rfl
      have u2 := Blk.c S2 2 (v := .int .i64 { s with order := x }.taken) rfl
      have u3 := Blk.c S2 3 (v := .slice a3 n3 c3) rfl
      have u4 := Blk.c S2 4 (v := .int .i64 { s with order := x }.clock) rfl
      have u5 := Blk.c S2 5 (v := .int .i64 { s with order := x }.at_) rfl
      have u6 := Blk.c S2 6 (v := .int .i64 { s with order := x }.phase) rfl
      have u7 := Blk.c S2 7 (v := .int .i64 { s with order := x }.order) rfl
      have u8 := Blk.c S2 8 (v := .int .i64 { s with order := x }.operand) rfl
      have u9 := Blk.c S2 9 (v := .int .i64 { s with order := x }.other) rfl
      have u10 := Blk.c S2 10 (v := .int .i64 { s with order := x }.product) rfl
      have u11 := Blk.c S2 11 (v := .int .i64 { s with order := x }.count) rfl
      have u12 := Blk.c S2 12 (v := .int .i64 { s with order := x }.done) rfl
      have u13 := Blk.c S2 13 (v := .int .i64 { s with order := x }.why) rfl
      have g0 := Blk.f S2 0
      have g1 := Blk.f S2 1
      have g2 := Blk.f S2 2
      have g3 := Blk.f S2 3
      have g4 := Blk.f S2 4
      have g5 := Blk.f S2 5
      have g6 := Blk.f S2 6
      have g7 := Blk.f S2 7
      have g8 := Blk.f S2 8
      have g9 := Blk.f S2 9
      have g10 := Blk.f S2 10
      have g11 := Blk.f S2 11
      have g12 := Blk.f S2 12
      have g13 := Blk.f S2 13
      have hy : w.heap.size + 1 + 1 < w2.heap.size := S2.lt
      have hy0 : w.heap.size + 1 < w2.heap.size := R2.lt
      go_wp2_with fail
      refine bodyPost_ret (v := psv a1 a2 a3 n1 c1 n2 c2 n3 c3 { s with order := x, phase := 1 }) (by simp [results, Try.results131, go_sem, hz, hz0, hy, hy0, q0, q1, q2, q3, q4, q5, q6, q7, q8, q9, q10, q11, q12, q13]) rfl ⟨rfl, ?_⟩
      exact (by repeat (first | with_reducible exact Ext.refl _ | with_reducible exact F2 | with_reducible exact F2.old | with_reducible exact F2.old.old | with_reducible exact F2.old.old.old | (with_reducible refine Ext.alloc ?_ _) | (with_reducible refine Below.drew ?_) | (with_reducible refine below_drewN ?_ _) | (with_reducible refine ext_put ?_ _ ?_; rotate_left; (first | with_reducible exact Nat.le_refl _ | with_reducible exact Nat.le_succ _ | omega | (dsimp only; omega)))))
  · rw [if_pos h0]
    have b0 : (y != 0) = true := by simpa using h0
    clear h0
    go_enter Try.func131, Try.ntmps131
    go_wp2_with fail
    refine (he _).mono ?_
    rintro e w1 ⟨rfl, E1⟩
    have P := Blk.of E1.old.old
    have R := Blk.of E1.old
    rw [World.size_alloc] at R
    have u0 := Blk.c P 0 (v := .slice a1 n1 c1) rfl
    have u1 := Blk.c P 1 (v := .slice a2 n2 c2) rfl
    have u2 := Blk.c P 2 (v := .int .i64 s.taken) rfl
    have u3 := Blk.c P 3 (v := .slice a3 n3 c3) rfl
    have u4 := Blk.c P 4 (v := .int .i64 s.clock) rfl
    have u5 := Blk.c P 5 (v := .int .i64 s.at_) rfl
    have u6 := Blk.c P 6 (v := .int .i64 s.phase) rfl
    have u7 := Blk.c P 7 (v := .int .i64 s.order) rfl
    have u8 := Blk.c P 8 (v := .int .i64 s.operand) rfl
    have u9 := Blk.c P 9 (v := .int .i64 s.other) rfl
    have u10 := Blk.c P 10 (v := .int .i64 s.product) rfl
    have u11 := Blk.c P 11 (v := .int .i64 s.count) rfl
    have u12 := Blk.c P 12 (v := .int .i64 s.done) rfl
    have u13 := Blk.c P 13 (v := .int .i64 s.why) rfl
    have g0 := Blk.f P 0
    have g1 := Blk.f P 1
    have g2 := Blk.f P 2
    have g3 := Blk.f P 3
    have g4 := Blk.f P 4
    have g5 := Blk.f P 5
    have g6 := Blk.f P 6
    have g7 := Blk.f P 7
    have g8 := Blk.f P 8
    have g9 := Blk.f P 9
    have g10 := Blk.f P 10
    have g11 := Blk.f P 11
    have g12 := Blk.f P 12
    have g13 := Blk.f P 13
    have q0 := Blk.c R 0 (v := .slice none 0 0) rfl
    have q1 := Blk.c R 1 (v := .slice none 0 0) rfl
    have q2 := Blk.c R 2 (v := .int .i64 0) rfl
    have q3 := Blk.c R 3 (v := .slice none 0 0) rfl
    have q4 := Blk.c R 4 (v := .int .i64 0) rfl
    have q5 := Blk.c R 5 (v := .int .i64 0) rfl
    have q6 := Blk.c R 6 (v := .int .i64 0) rfl
    have q7 := Blk.c R 7 (v := .int .i64 0) rfl
    have q8 := Blk.c R 8 (v := .int .i64 0) rfl
    have q9 := Blk.c R 9 (v := .int .i64 0) rfl
    have q10 := Blk.c R 10 (v := .int .i64 0) rfl
    have q11 := Blk.c R 11 (v := .int .i64 0) rfl
    have q12 := Blk.c R 12 (v := .int .i64 0) rfl
    have q13 := Blk.c R 13 (v := .int .i64 0) rfl
    have f0 := Blk.f R 0
    have f1 := Blk.f R 1
    have f2 := Blk.f R 2
    have f3 := Blk.f R 3
    have f4 := Blk.f R 4
    have f5 := Blk.f R 5
    have f6 := Blk.f R 6
    have f7 := Blk.f R 7
    have f8 := Blk.f R 8
    have f9 := Blk.f R 9
    have f10 := Blk.f R 10
    have f11 := Blk.f R 11
    have f12 := Blk.f R 12
    have f13 := Blk.f R 13
    have hz : w.heap.size + 1 < w1.heap.size := R.lt
    have hz0 : w.heap.size < w1.heap.size := P.lt
    go_wp2_with fail
    refine bodyPost_ret (v := psv a1 a2 a3 n1 c1 n2 c2 n3 c3 { s with why := y }) (by simp [results, Try.results131, go_sem, hz, hz0, q0, q1, q2, q3, q4, q5, q6, q7, q8, q9, q10, q11, q12, q13]) rfl ⟨rfl, ?_⟩
    exact (by repeat (first | with_reducible exact Ext.refl _ | with_reducible exact E1 | with_reducible exact E1.old | with_reducible exact E1.old.old | with_reducible exact E1.old.old.old | (with_reducible refine Ext.alloc ?_ _) | (with_reducible refine Below.drew ?_) | (with_reducible refine below_drewN ?_ _) | (with_reducible refine ext_put ?_ _ ?_; rotate_left; (first | with_reducible exact Nat.le_refl _ | with_reducible exact Nat.le_succ _ | omega | (dsimp only; omega)))))
end Go.Proofs.Ytjfggepgjpdebaa
