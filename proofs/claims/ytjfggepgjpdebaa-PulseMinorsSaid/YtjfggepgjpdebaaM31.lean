import Derived.Test.YtjfggepgjpdebaaM30
set_option linter.unusedVariables false
set_option linter.unusedSimpArgs false
/- Contract: the reference of layer 5: to. -/
namespace Go.Proofs.Ytjfggepgjpdebaa
open Go.RowKit Go.Q
set_option maxRecDepth 100000 in
set_option maxHeartbeats 4000000 in
theorem rto_any (a1 a2 a3 : Option Addr) (n1 c1 n2 c2 n3 c3 : Nat) (s : Pu) (x : Int) (w : World) (ho : 0 ≤ s.order ∧ s.order ≤ 16777215) (hd : 0 ≤ s.done ∧ s.done ≤ 1000000000) (ht : 0 ≤ s.taken ∧ s.taken ≤ 1000000000) (hp : s.phase = 2 ∨ s.phase = 4 ∧ (ordP s).op = 4) :
    Calls Try.prog 133 #[psv a1 a2 a3 n1 c1 n2 c2 n3 c3 s, .int .i64 x] w fun e w' => e = .returned (psv a1 a2 a3 n1 c1 n2 c2 n3 c3 (cameP s x)) ∧ Ext w w' := by
  have hdd := fun W => rdec_ord ho W
  have hdn := fun (t : Pu) (h1 : 0 ≤ t.order ∧ t.order ≤ 16777215) (h2 : 0 ≤ t.done ∧ t.done ≤ 1000000000) W => rdone_any a1 a2 a3 n1 c1 n2 c2 n3 c3 t W h1 h2
  have hd0 := hdn s ho hd
  have hd6 := hdn { s with taken := s.taken + 1 } ho hd
  clear hdn
  obtain ⟨t0, t1⟩ := ht
  have ep : ordP s = decodeQ s.order := rfl
  rw [ep] at hp
  by_cases h4 : (decodeQ s.order).op = 4
  · by_cases h2 : s.phase = 2
    · have e2 : cameP s x = { s with other := x, product := 0, count := 12, phase := 3 } := by simp [cameP, toP, ordP, h4, h2]
      rw [e2]
      have b4 : ((decodeQ s.order).op == 4) = true := by simpa using h4
      have b2 : (s.phase == 2) = true := by simpa using h2
      clear e2 h4 h2 hp hd0 hd6 ep
      generalize decodeQ s.order = o at *
      go_enter Try.func133, Try.ntmps133
      go_wp2_with fail
      refine (hdd _).mono ?_
      rintro e w1 ⟨rfl, E1⟩
      have P := Blk.of E1.old
      have R := Blk.of E1
      rw [World.size_alloc] at R
      have u0 := Blk.c P 0 (v := .slice a1 n1 c1) rfl
      have u1 := Blk.c P 1 (v := .slice a2 n2 c2) rfl
      have u2 := Blk.c P 2 (v := .int .i64 s.taken) rfl
      have u3 := Blk.c P 3 (v := .slice a3 n3 c3) rfl
      have u4 := Blk.c P 4 (v := .int .i64 s.clock) rfl
      have u5 := Blk.c P 5 (v := .int .i64 s.at_) rfl
      have u6 := Blk.c P 6 (v := .int .i64 s.phase) rfl
      have u7 := Blk.c P 7 (v := .int .i64 s.order) rfl
      have u8 := Blk.c P 8 (v := .int .i64 s.operand) rfl
      have u9 := Blk.c P 9 (v := .int .i64 s.other) rfl
      have u10 := Blk.c P 10 (v := .int .i64 s.product) rfl
      have u11 := Blk.c P 11 (v := .int .i64 s.count) rfl
      have u12 := Blk.c P 12 (v := .int .i64 s.done) rfl
      have u13 := Blk.c P 13 (v := .int .i64 s.why) rfl
      have g0 := Blk.f P 0
      have g1 := Blk.f P 1
      have g2 := Blk.f P 2
      have g3 := Blk.f P 3
      have g4 := Blk.f P 4
      have g5 := Blk.f P 5
      have g6 := Blk.f P 6
      have g7 := Blk.f P 7
      have g8 := Blk.f P 8
      have g9 := Blk.f P 9
      have g10 := Blk.f P 10
      have g11 := Blk.f P 11
      have g12 := Blk.f P 12
      have g13 := Blk.f P 13
      have q0 := Blk.c R 0 (v := .slice none 0 0) rfl
      have q1 := Blk.c R 1 (v := .slice none 0 0) rfl
      have q2 := Blk.c R 2 (v := .int .i64 0) rfl
      have q3 := Blk.c R 3 (v := .slice none 0 0) rfl
      have q4 := Blk.c R 4 (v := .int .i64 0) rfl
      have q5 := Blk.c R 5 (v := .int .i64 0) rfl
      have q6 := Blk.c R 6 (v := .int .i64 0) rfl
      have q7 := Blk.c R 7 (v := .int .i64 0) rfl
      have q8 := Blk.c R 8 (v := .int .i64 0) rfl
      have q9 := Blk.c R 9 (v := .int .i64 0) rfl
      have q10 := Blk.c R 10 (v := .int .i64 0) rfl
      have q11 := Blk.c R 11 (v := .int .i64 0) rfl
      have q12 := Blk.c R 12 (v := .int .i64 0) rfl
      have q13 := Blk.c R 13 (v := .int .i64 0) rfl
      have f0 := Blk.f R 0
      have f1 := Blk.f R 1
      have f2 := Blk.f R 2
      have f3 := Blk.f R 3
      have f4 := Blk.f R 4
      have f5 := Blk.f R 5
      have f6 := Blk.f R 6
      have f7 := Blk.f R 7
      have f8 := Blk.f R 8
      have f9 := Blk.f R 9
      have f10 := Blk.f R 10
      have f11 := Blk.f R 11
      have f12 := Blk.f R 12
      have f13 := Blk.f R 13
      have hz : w.heap.size + 1 < w1.heap.size := R.lt
      have hz0 : w.heap.size < w1.heap.size := P.lt
      go_wp2_with fail
      refine bodyPost_ret (v := psv a1 a2 a3 n1 c1 n2 c2 n3 c3 { s with other := x, product := 0, count := 12, phase := 3 }) (by simp [results, Try.results133, go_sem, hz, hz0, q0, q1, q2, q3, q4, q5, q6, q7, q8, q9, q10, q11, q12, q13]) rfl ⟨rfl, ?_⟩
      exact (by repeat (first | with_reducible exact Ext.refl _ | with_reducible exact E1 | with_reducible exact E1.old | with_reducible exact E1.old.old | with_reducible exact E1.old.old.old | (with_reducible refine Ext.alloc ?_ _) | (with_reducible refine Below.drew ?_) | (with_reducible refine below_drewN ?_ _) | (with_reducible refine ext_put ?_ _ ?_; rotate_left; (first | with_reducible exact Nat.le_refl _ | with_reducible exact Nat.le_succ _ | omega | (dsimp only; omega)))))
    · have e2 : cameP s x = finishP s := by
        have h44 : s.phase = 4 := by omega
        simp [cameP, h44]
      rw [e2]
      have b4 : ((decodeQ s.order).op == 4) = true := by simpa using h4
      have b2 : (s.phase == 2) = false := by simpa using h2
      have b6 : ((decodeQ s.order).op == 6) = false := by simp [h4]
      clear e2 h4 h2 hp hd6 ep
      generalize finishP s = T at *
      generalize decodeQ s.order = o at *
      go_enter Try.func133, Try.ntmps133
      go_wp2_with fail
      refine (hdd _).mono ?_
      rintro e w1 ⟨rfl, E1⟩
      have P := Blk.of E1.old
      have R := Blk.of E1
      rw [World.size_alloc] at R
      have u0 := Blk.c P 0 (v := .slice a1 n1 c1) rfl
      have u1 := Blk.c P 1 (v := .slice a2 n2 c2) rfl
      have u2 := Blk.c P 2 (v := .int .i64 s.taken) rfl
      have u3 := Blk.c P 3 (v := .slice a3 n3 c3) rfl
      have u4 := Blk.c P 4 (v := .int .i64 s.clock) rfl
      have u5 := Blk.c P 5 (v := .int .i64 s.at_) rfl
      have u6 := Blk.c P 6 (v := .int .i64 s.phase) rfl
      have u7 := Blk.c P 7 (v := .int .i64 s.order) rfl
      have u8 := Blk.c P 8 (v := .int .i64 s.operand) rfl
      have u9 := Blk.c P 9 (v := .int .i64 s.other) rfl
      have u10 := Blk.c P 10 (v := .int .i64 s.product) rfl
      have u11 := Blk.c P 11 (v := .int .i64 s.count) rfl
      have u12 := Blk.c P 12 (v := .int .i64 s.done) rfl
      have u13 := Blk.c P 13 (v := .int .i64 s.why) rfl
      have g0 := Blk.f P 0
      have g1 := Blk.f P 1
      have g2 := Blk.f P 2
      have g3 := Blk.f P 3
      have g4 := Blk.f P 4
      have g5 := Blk.f P 5
      have g6 := Blk.f P 6
      have g7 := Blk.f P 7
      have g8 := Blk.f P 8
      have g9 := Blk.f P 9
      have g10 := Blk.f P 10
      have g11 := Blk.f P 11
      have g12 := Blk.f P 12
      have g13 := Blk.f P 13
      have hz : w.heap.size + 1 < w1.heap.size := R.lt
      have hz0 : w.heap.size < w1.heap.size := P.lt
      go_wp2_with fail
      refine (hd0 _).mono ?_
      rintro e w2 ⟨rfl, E2⟩
      have F2 : Ext w w2 := Ext.comp (by repeat (first | with_reducible exact Ext.refl _ | with_reducible exact E1 | with_reducible exact E1.old | with_reducible exact E1.old.old | with_reducible exact E1.old.old.old | (with_reducible refine Ext.alloc ?_ _) | (with_reducible refine Below.drew ?_) | (with_reducible refine below_drewN ?_ _) | (with_reducible refine ext_put ?_ _ ?_; rotate_left; (first | with_reducible exact Nat.le_refl _ | with_reducible exact Nat.le_succ _ | omega | (dsimp only; omega))))) E2
      have R2 := Blk.go R (by intro hblk; repeat (first | with_reducible exact hblk | with_reducible refine Blk.al ?_ _ | with_reducible refine Blk.dr ?_ | (with_reducible refine Blk.ot ?_ ?_; rotate_left; (first | omega | (dsimp only; omega))))) E2
      have q0 := Blk.c R2 0 (v := .slice none 0 0) rfl
      have q1 := Blk.c R2 1 (v := .slice none 0 0) rfl
      have q2 := Blk.c R2 2 (v := .int .i64 0) rfl
      have q3 := Blk.c R2 3 (v := .slice none 0 0) rfl
      have q4 := Blk.c R2 4 (v := .int .i64 0) rfl
      have q5 := Blk.c R2 5 (v := .int .i64 0) rfl
      have q6 := Blk.c R2 6 (v := .int .i64 0) rfl
      have q7 := Blk.c R2 7 (v := .int .i64 0) rfl
      have q8 := Blk.c R2 8 (v := .int .i64 0) rfl
      have q9 := Blk.c R2 9 (v := .int .i64 0) rfl
      have q10 := Blk.c R2 10 (v := .int .i64 0) rfl
      have q11 := Blk.c R2 11 (v := .int .i64 0) rfl
      have q12 := Blk.c R2 12 (v := .int .i64 0) rfl
      have q13 := Blk.c R2 13 (v := .int .i64 0) rfl
      have f0 := Blk.f R2 0
      have f1 := Blk.f R2 1
      have f2 := Blk.f R2 2
      have f3 := Blk.f R2 3
      have f4 := Blk.f R2 4
      have f5 := Blk.f R2 5
      have f6 := Blk.f R2 6
      have f7 := Blk.f R2 7
      have f8 := Blk.f R2 8
      have f9 := Blk.f R2 9
      have f10 := Blk.f R2 10
      have f11 := Blk.f R2 11
      have f12 := Blk.f R2 12
      have f13 := Blk.f R2 13
      have hy : w.heap.size + 1 < w2.heap.size := R2.lt
      go_wp2_with fail
      refine bodyPost_ret (v := psv a1 a2 a3 n1 c1 n2 c2 n3 c3 T) (by simp [results, Try.results133, go_sem, hz, hz0, hy, q0, q1, q2, q3, q4, q5, q6, q7, q8, q9, q10, q11, q12, q13]) rfl ⟨rfl, ?_⟩
      exact (by repeat (first | with_reducible exact Ext.refl _ | with_reducible exact F2 | with_reducible exact F2.old | with_reducible exact F2.old.old | with_reducible exact F2.old.old.old | (with_reducible refine Ext.alloc ?_ _) | (with_reducible refine Below.drew ?_) | (with_reducible refine below_drewN ?_ _) | (with_reducible refine ext_put ?_ _ ?_; rotate_left; (first | with_reducible exact Nat.le_refl _ | with_reducible exact Nat.le_succ _ | omega | (dsimp only; omega)))))
  · have h2 : s.phase = 2 := by
      rcases hp with h | h
      · exact h
      · exact absurd h.2 h4
    have b4 : ((decodeQ s.order).op == 4) = false := by simpa using h4
    by_cases h6 : (decodeQ s.order).op = 6
    · have e2 : cameP s x = finishP { s with taken := s.taken + 1 } := by simp [cameP, toP, ordP, h2, h6]
      rw [e2]
      have b6 : ((decodeQ s.order).op == 6) = true := by simpa using h6
      clear e2 h4 h2 hp h6 hd0 ep
      generalize finishP { s with taken := s.taken + 1 } = T at *
      generalize decodeQ s.order = o at *
      go_enter Try.func133, Try.ntmps133
      go_wp2_with fail
      refine (hdd _).mono ?_
      rintro e w1 ⟨rfl, E1⟩
      have P := Blk.of E1.old
      have R := Blk.of E1
      rw [World.size_alloc] at R
      have u0 := Blk.c P 0 (v := .slice a1 n1 c1) rfl
      have u1 := Blk.c P 1 (v := .slice a2 n2 c2) rfl
      have u2 := Blk.c P 2 (v := .int .i64 s.taken) rfl
      have u3 := Blk.c P 3 (v := .slice a3 n3 c3) rfl
      have u4 := Blk.c P 4 (v := .int .i64 s.clock) rfl
      have u5 := Blk.c P 5 (v := .int .i64 s.at_) rfl
      have u6 := Blk.c P 6 (v := .int .i64 s.phase) rfl
      have u7 := Blk.c P 7 (v := .int .i64 s.order) rfl
      have u8 := Blk.c P 8 (v := .int .i64 s.operand) rfl
      have u9 := Blk.c P 9 (v := .int .i64 s.other) rfl
      have u10 := Blk.c P 10 (v := .int .i64 s.product) rfl
      have u11 := Blk.c P 11 (v := .int .i64 s.count) rfl
      have u12 := Blk.c P 12 (v := .int .i64 s.done) rfl
      have u13 := Blk.c P 13 (v := .int .i64 s.why) rfl
      have g0 := Blk.f P 0
      have g1 := Blk.f P 1
      have g2 := Blk.f P 2
      have g3 := Blk.f P 3
      have g4 := Blk.f P 4
      have g5 := Blk.f P 5
      have g6 := Blk.f P 6
      have g7 := Blk.f P 7
      have g8 := Blk.f P 8
      have g9 := Blk.f P 9
      have g10 := Blk.f P 10
      have g11 := Blk.f P 11
      have g12 := Blk.f P 12
      have g13 := Blk.f P 13
      have hz : w.heap.size + 1 < w1.heap.size := R.lt
      have hz0 : w.heap.size < w1.heap.size := P.lt
      go_wp2_with fail
      refine (hd6 _).mono ?_
      rintro e w2 ⟨rfl, E2⟩
      have F2 : Ext w w2 := Ext.comp (by repeat (first | with_reducible exact Ext.refl _ | with_reducible exact E1 | with_reducible exact E1.old | with_reducible exact E1.old.old | with_reducible exact E1.old.old.old | (with_reducible refine Ext.alloc ?_ _) | (with_reducible refine Below.drew ?_) | (with_reducible refine below_drewN ?_ _) | (with_reducible refine ext_put ?_ _ ?_; rotate_left; (first | with_reducible exact Nat.le_refl _ | with_reducible exact Nat.le_succ _ | omega | (dsimp only; omega))))) E2
      have R2 := Blk.go R (by intro hblk; repeat (first | with_reducible exact hblk | with_reducible refine Blk.al ?_ _ | with_reducible refine Blk.dr ?_ | (with_reducible refine Blk.ot ?_ ?_; rotate_left; (first | omega | (dsimp only; omega))))) E2
      have q0 := Blk.c R2 0 (v := .slice none 0 0) rfl
      have q1 := Blk.c R2 1 (v := .slice none 0 0) rfl
      have q2 := Blk.c R2 2 (v := .int .i64 0) rfl
      have q3 := Blk.c R2 3 (v := .slice none 0 0) rfl
      have q4 := Blk.c R2 4 (v := .int .i64 0) rfl
      have q5 := Blk.c R2 5 (v := .int .i64 0) rfl
      have q6 := Blk.c R2 6 (v := .int .i64 0) rfl
      have q7 := Blk.c R2 7 (v := .int .i64 0) rfl
      have q8 := Blk.c R2 8 (v := .int .i64 0) rfl
      have q9 := Blk.c R2 9 (v := .int .i64 0) rfl
      have q10 := Blk.c R2 10 (v := .int .i64 0) rfl
      have q11 := Blk.c R2 11 (v := .int .i64 0) rfl
      have q12 := Blk.c R2 12 (v := .int .i64 0) rfl
      have q13 := Blk.c R2 13 (v := .int .i64 0) rfl
      have f0 := Blk.f R2 0
      have f1 := Blk.f R2 1
      have f2 := Blk.f R2 2
      have f3 := Blk.f R2 3
      have f4 := Blk.f R2 4
      have f5 := Blk.f R2 5
      have f6 := Blk.f R2 6
      have f7 := Blk.f R2 7
      have f8 := Blk.f R2 8
      have f9 := Blk.f R2 9
      have f10 := Blk.f R2 10
      have f11 := Blk.f R2 11
      have f12 := Blk.f R2 12
      have f13 := Blk.f R2 13
      have hy : w.heap.size + 1 < w2.heap.size := R2.lt
      go_wp2_with fail
      refine bodyPost_ret (v := psv a1 a2 a3 n1 c1 n2 c2 n3 c3 T) (by simp [results, Try.results133, go_sem, hz, hz0, hy, q0, q1, q2, q3, q4, q5, q6, q7, q8, q9, q10, q11, q12, q13]) rfl ⟨rfl, ?_⟩
      exact (by repeat (first | with_reducible exact Ext.refl _ | with_reducible exact F2 | with_reducible exact F2.old | with_reducible exact F2.old.old | with_reducible exact F2.old.old.old | (with_reducible refine Ext.alloc ?_ _) | (with_reducible refine Below.drew ?_) | (with_reducible refine below_drewN ?_ _) | (with_reducible refine ext_put ?_ _ ?_; rotate_left; (first | with_reducible exact Nat.le_refl _ | with_reducible exact Nat.le_succ _ | omega | (dsimp only; omega)))))
    · have e2 : cameP s x = finishP s := by simp [cameP, toP, ordP, h2, h4, h6]
      rw [e2]
      have b6 : ((decodeQ s.order).op == 6) = false := by simpa using h6
      clear e2 h4 h2 hp h6 hd6 ep
      generalize finishP s = T at *
      generalize decodeQ s.order = o at *
      go_enter Try.func133, Try.ntmps133
      go_wp2_with fail
      refine (hdd _).mono ?_
      rintro e w1 ⟨rfl, E1⟩
      have P := Blk.of E1.old
      have R := Blk.of E1
      rw [World.size_alloc] at R
      have u0 := Blk.c P 0 (v := .slice a1 n1 c1) rfl
      have u1 := Blk.c P 1 (v := .slice a2 n2 c2) rfl
      have u2 := Blk.c P 2 (v := .int .i64 s.taken) rfl
      have u3 := Blk.c P 3 (v := .slice a3 n3 c3) rfl
      have u4 := Blk.c P 4 (v := .int .i64 s.clock) rfl
      have u5 := Blk.c P 5 (v := .int .i64 s.at_) rfl
      have u6 := Blk.c P 6 (v := .int .i64 s.phase) rfl
      have u7 := Blk.c P 7 (v := .int .i64 s.order) rfl
      have u8 := Blk.c P 8 (v := .int .i64 s.operand) rfl
      have u9 := Blk.c P 9 (v := .int .i64 s.other) rfl
      have u10 := Blk.c P 10 (v := .int .i64 s.product) rfl
      have u11 := Blk.c P 11 (v := .int .i64 s.count) rfl
      have u12 := Blk.c P 12 (v := .int .i64 s.done) rfl
      have u13 := Blk.c P 13 (v := .int .i64 s.why) rfl
      have g0 := Blk.f P 0
      have g1 := Blk.f P 1
      have g2 := Blk.f P 2
      have g3 := Blk.f P 3
      have g4 := Blk.f P 4
      have g5 := Blk.f P 5
      have g6 := Blk.f P 6
      have g7 := Blk.f P 7
      have g8 := Blk.f P 8
      have g9 := Blk.f P 9
      have g10 := Blk.f P 10
      have g11 := Blk.f P 11
      have g12 := Blk.f P 12
      have g13 := Blk.f P 13
      have hz : w.heap.size + 1 < w1.heap.size := R.lt
      have hz0 : w.heap.size < w1.heap.size := P.lt
      go_wp2_with fail
      refine (hd0 _).mono ?_
      rintro e w2 ⟨rfl, E2⟩
      have F2 : Ext w w2 := Ext.comp (by repeat (first | with_reducible exact Ext.refl _ | with_reducible exact E1 | with_reducible exact E1.old | with_reducible exact E1.old.old | with_reducible exact E1.old.old.old | (with_reducible refine Ext.alloc ?_ _) | (with_reducible refine Below.drew ?_) | (with_reducible refine below_drewN ?_ _) | (with_reducible refine ext_put ?_ _ ?_; rotate_left; (first | with_reducible exact Nat.le_refl _ | with_reducible exact Nat.le_succ _ | omega | (dsimp only; omega))))) E2
      have R2 := Blk.go R (by intro hblk; repeat (first | with_reducible exact hblk | with_reducible refine Blk.al ?_ _ | with_reducible refine Blk.dr ?_ | (with_reducible refine Blk.ot ?_ ?_; rotate_left; (first | omega | (dsimp only; omega))))) E2
      have q0 := Blk.c R2 0 (v := .slice none 0 0) rfl
      have q1 := Blk.c R2 1 (v := .slice none 0 0) rfl
      have q2 := Blk.c R2 2 (v := .int .i64 0) rfl
      have q3 := Blk.c R2 3 (v := .slice none 0 0) rfl
      have q4 := Blk.c R2 4 (v := .int .i64 0) rfl
      have q5 := Blk.c R2 5 (v := .int .i64 0) rfl
      have q6 := Blk.c R2 6 (v := .int .i64 0) rfl
      have q7 := Blk.c R2 7 (v := .int .i64 0) rfl
      have q8 := Blk.c R2 8 (v := .int .i64 0) rfl
      have q9 := Blk.c R2 9 (v := .int .i64 0) rfl
      have q10 := Blk.c R2 10 (v := .int .i64 0) rfl
      have q11 := Blk.c R2 11 (v := .int .i64 0) rfl
      have q12 := Blk.c R2 12 (v := .int .i64 0) rfl
      have q13 := Blk.c R2 13 (v := .int .i64 0) rfl
      have f0 := Blk.f R2 0
      have f1 := Blk.f R2 1
      have f2 := Blk.f R2 2
      have f3 := Blk.f R2 3
      have f4 := Blk.f R2 4
      have f5 := Blk.f R2 5
      have f6 := Blk.f R2 6
      have f7 := Blk.f R2 7
      have f8 := Blk.f R2 8
      have f9 := Blk.f R2 9
      have f10 := Blk.f R2 10
      have f11 := Blk.f R2 11
      have f12 := Blk.f R2 12
      have f13 := Blk.f R2 13
      have hy : w.heap.size + 1 < w2.heap.size := R2.lt
      go_wp2_with fail
      refine bodyPost_ret (v := psv a1 a2 a3 n1 c1 n2 c2 n3 c3 T) (by simp [results, Try.results133, go_sem, hz, hz0, hy, q0, q1, q2, q3, q4, q5, q6, q7, q8, q9, q10, q11, q12, q13]) rfl ⟨rfl, ?_⟩
      exact (by repeat (first | with_reducible exact Ext.refl _ | with_reducible exact F2 | with_reducible exact F2.old | with_reducible exact F2.old.old | with_reducible exact F2.old.old.old | (with_reducible refine Ext.alloc ?_ _) | (with_reducible refine Below.drew ?_) | (with_reducible refine below_drewN ?_ _) | (with_reducible refine ext_put ?_ _ ?_; rotate_left; (first | with_reducible exact Nat.le_refl _ | with_reducible exact Nat.le_succ _ | omega | (dsimp only; omega)))))
end Go.Proofs.Ytjfggepgjpdebaa
