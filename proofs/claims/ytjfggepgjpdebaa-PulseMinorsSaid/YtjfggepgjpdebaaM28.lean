import Derived.Test.YtjfggepgjpdebaaM27
import Derived.Test.YtjfggepgjpdebaaM9
set_option linter.unusedVariables false
set_option linter.unusedSimpArgs false
/- Contract: the reference of layer 5: behind (Q13a). -/
namespace Go.Proofs.Ytjfggepgjpdebaa
open Go.RowKit Go.Q
set_option maxRecDepth 100000 in
set_option maxHeartbeats 16000000 in
theorem rbehind_count (a1 a2 a3 : Option Addr) (n1 c1 c2 c3 : Nat) (s : Pu) (x : Int) (w : World) (hv : ValidP s) (hy : s.why = 0) (hc : s.clock ≠ 1000000000) (hx : 0 ≤ x ∧ x ≤ 16777215) (hI : IntsAt w a3 s.printed) (h3 : s.phase = 3) :
    Calls Try.prog 103 #[psv a1 a2 a3 n1 c1 s.tape.length c2 s.printed.length c3 s, .int .i64 x] w (Beh a1 a2 a3 n1 c1 s.tape.length c2 s.printed w (endP (comesP s) x s)) := by
  have had := fun W => raddress_any a1 a2 a3 n1 c1 s.tape.length c2 s.printed.length c3 s W hv.order
  have hclk : (cameP s x).clock = s.clock := came_clock s x
  obtain ⟨cl0, cl1⟩ := hv.clock
  obtain ⟨dn0, dn1⟩ := hv.done
  obtain ⟨tk0, tk1⟩ := hv.taken
  have htl := hv.tlen
  have hpl := hv.plen
  have ee : endP (comesP s) x s = tickP (cameP s x) := by unfold endP; rw [if_pos (.inr h3)]
  have b3 : (s.phase != 3) = false := by simp [h3]
  rw [ee]
  rw [b3] at had
  have hct : 1 ≤ s.count ∧ s.count ≤ 12 := ⟨hv.cnt.1 h3, hv.count.2⟩
  have hcall : ∀ W, Ext w W → Calls Try.prog 130 #[psv a1 a2 a3 n1 c1 s.tape.length c2 s.printed.length c3 s] W (Beh a1 a2 a3 n1 c1 s.tape.length c2 s.printed W (cameP s x)) := fun W E => (rcounted_any a1 a2 a3 n1 c1 s.tape.length c2 s.printed.length c3 s W hct).mono fun e w' h => by rw [show cameP s x = countP s from by unfold cameP; rw [if_neg (by omega), if_neg (by omega), if_neg (by omega), if_pos h3]]; exact Beh.of h rfl
  have hT : (cameP s x).why = 0 := (came_why x (by omega)).trans hy
  clear hv hI hx hy hc ee b3 h3 hct
  generalize cameP s x = T at *
  generalize hn2 : s.tape.length = n2 at *
  generalize hn3 : s.printed.length = n3 at *
  clear hn2 hn3
  have bw : (T.why == 0) = true := by simpa using hT
  rw [tick_go hT]
  rw [hclk]
  clear hT hclk
  go_enter Try.func103, Try.ntmps103
  go_wp2_with fail
  refine (had _).mono ?_
  rintro e w1 ⟨rfl, E1⟩
  have P := Blk.of E1.old
  have R := Blk.of E1
  rw [World.size_alloc] at R
  have u0 := Blk.c P 0 (v := .slice a1 n1 c1) rfl
  have u1 := Blk.c P 1 (v := .slice a2 n2 c2) rfl
  have u2 := Blk.c P 2 (v := .int .i64 s.taken) rfl
  have u3 := Blk.c P 3 (v := .slice a3 n3 c3) rfl
  have u4 := Blk.c P 4 (v := .int .i64 s.clock) rfl
  have u5 := Blk.c P 5 (v := .int .i64 s.at_) rfl
  have u6 := Blk.c P 6 (v := .int .i64 s.phase) rfl
  have u7 := Blk.c P 7 (v := .int .i64 s.order) rfl
  have u8 := Blk.c P 8 (v := .int .i64 s.operand) rfl
  have u9 := Blk.c P 9 (v := .int .i64 s.other) rfl
  have u10 := Blk.c P 10 (v := .int .i64 s.product) rfl
  have u11 := Blk.c P 11 (v := .int .i64 s.count) rfl
  have u12 := Blk.c P 12 (v := .int .i64 s.done) rfl
  have u13 := Blk.c P 13 (v := .int .i64 s.why) rfl
  have g0 := Blk.f P 0
  have g1 := Blk.f P 1
  have g2 := Blk.f P 2
  have g3 := Blk.f P 3
  have g4 := Blk.f P 4
  have g5 := Blk.f P 5
  have g6 := Blk.f P 6
  have g7 := Blk.f P 7
  have g8 := Blk.f P 8
  have g9 := Blk.f P 9
  have g10 := Blk.f P 10
  have g11 := Blk.f P 11
  have g12 := Blk.f P 12
  have g13 := Blk.f P 13
  have q0 := Blk.c R 0 (v := .slice none 0 0) rfl
  have q1 := Blk.c R 1 (v := .slice none 0 0) rfl
  have q2 := Blk.c R 2 (v := .int .i64 0) rfl
  have q3 := Blk.c R 3 (v := .slice none 0 0) rfl
  have q4 := Blk.c R 4 (v := .int .i64 0) rfl
  have q5 := Blk.c R 5 (v := .int .i64 0) rfl
  have q6 := Blk.c R 6 (v := .int .i64 0) rfl
  have q7 := Blk.c R 7 (v := .int .i64 0) rfl
  have q8 := Blk.c R 8 (v := .int .i64 0) rfl
  have q9 := Blk.c R 9 (v := .int .i64 0) rfl
  have q10 := Blk.c R 10 (v := .int .i64 0) rfl
  have q11 := Blk.c R 11 (v := .int .i64 0) rfl
  have q12 := Blk.c R 12 (v := .int .i64 0) rfl
  have q13 := Blk.c R 13 (v := .int .i64 0) rfl
  have f0 := Blk.f R 0
  have f1 := Blk.f R 1
  have f2 := Blk.f R 2
  have f3 := Blk.f R 3
  have f4 := Blk.f R 4
  have f5 := Blk.f R 5
  have f6 := Blk.f R 6
  have f7 := Blk.f R 7
  have f8 := Blk.f R 8
  have f9 := Blk.f R 9
  have f10 := Blk.f R 10
  have f11 := Blk.f R 11
  have f12 := Blk.f R 12
  have f13 := Blk.f R 13
  have hz : w.heap.size + 1 < w1.heap.size := R.lt
  have hz0 : w.heap.size < w1.heap.size := P.lt
  go_wp2_with fail
  refine (hcall _ (by repeat (first | with_reducible exact Ext.refl _ | with_reducible exact E1 | with_reducible exact E1.old | with_reducible exact E1.old.old | with_reducible exact E1.old.old.old | (with_reducible refine Ext.alloc ?_ _) | (with_reducible refine Below.drew ?_) | (with_reducible refine below_drewN ?_ _) | (with_reducible refine ext_put ?_ _ ?_; rotate_left; (first | with_reducible exact Nat.le_refl _ | with_reducible exact Nat.le_succ _ | omega | (dsimp only; omega)))))).mono ?_
  rintro e w2 ⟨b3, d3, rfl, I3, E2⟩
  have F2 : Ext w w2 := Ext.comp (by repeat (first | with_reducible exact Ext.refl _ | with_reducible exact E1 | with_reducible exact E1.old | with_reducible exact E1.old.old | with_reducible exact E1.old.old.old | (with_reducible refine Ext.alloc ?_ _) | (with_reducible refine Below.drew ?_) | (with_reducible refine below_drewN ?_ _) | (with_reducible refine ext_put ?_ _ ?_; rotate_left; (first | with_reducible exact Nat.le_refl _ | with_reducible exact Nat.le_succ _ | omega | (dsimp only; omega))))) E2
  have P2 := Blk.go P (by intro hblk; repeat (first | with_reducible exact hblk | with_reducible refine Blk.al ?_ _ | with_reducible refine Blk.dr ?_ | (with_reducible refine Blk.ot ?_ ?_; rotate_left; (first | omega | (dsimp only; omega))))) E2
  have R2 := Blk.go R (by intro hblk; repeat (first | with_reducible exact hblk | with_reducible refine Blk.al ?_ _ | with_reducible refine Blk.dr ?_ | (with_reducible refine Blk.ot ?_ ?_; rotate_left; (first | omega | (dsimp only; omega))))) E2
  clear u0 u1 u2 u3 u4 u5 u6 u7 u8 u9 u10 u11 u12 u13 g0 g1 g2 g3 g4 g5 g6 g7 g8 g9 g10 g11 g12 g13 q0 q1 q2 q3 q4 q5 q6 q7 q8 q9 q10 q11 q12 q13 f0 f1 f2 f3 f4 f5 f6 f7 f8 f9 f10 f11 f12 f13 hz hz0
  have u0 := Blk.c P2 0 (v := .slice a1 n1 c1) rfl
  have u1 := Blk.c P2 1 (v := .slice a2 n2 c2) rfl
  have u2 := Blk.c P2 2 (v := .int .i64 s.taken) rfl
  have u3 := Blk.c P2 3 (v := .slice a3 n3 c3) rfl
  have u4 := Blk.c P2 4 (v := .int .i64 s.clock) rfl
  have u5 := Blk.c P2 5 (v := .int .i64 s.at_) rfl
  have u6 := Blk.c P2 6 (v := .int .i64 s.phase) rfl
  have u7 := Blk.c P2 7 (v := .int .i64 s.order) rfl
  have u8 := Blk.c P2 8 (v := .int .i64 s.operand) rfl
  have u9 := Blk.c P2 9 (v := .int .i64 s.other) rfl
  have u10 := Blk.c P2 10 (v := .int .i64 s.product) rfl
  have u11 := Blk.c P2 11 (v := .int .i64 s.count) rfl
  have u12 := Blk.c P2 12 (v := .int .i64 s.done) rfl
  have u13 := Blk.c P2 13 (v := .int .i64 s.why) rfl
  have g0 := Blk.f P2 0
  have g1 := Blk.f P2 1
  have g2 := Blk.f P2 2
  have g3 := Blk.f P2 3
  have g4 := Blk.f P2 4
  have g5 := Blk.f P2 5
  have g6 := Blk.f P2 6
  have g7 := Blk.f P2 7
  have g8 := Blk.f P2 8
  have g9 := Blk.f P2 9
  have g10 := Blk.f P2 10
  have g11 := Blk.f P2 11
  have g12 := Blk.f P2 12
  have g13 := Blk.f P2 13
  have q0 := Blk.c R2 0 (v := .slice none 0 0) rfl
  have q1 := Blk.c R2 1 (v := .slice none 0 0) rfl
  have q2 := Blk.c R2 2 (v := .int .i64 0) rfl
  have q3 := Blk.c R2 3 (v := .slice none 0 0) rfl
  have q4 := Blk.c R2 4 (v := .int .i64 0) rfl
  have q5 := Blk.c R2 5 (v := .int .i64 0) rfl
  have q6 := Blk.c R2 6 (v := .int .i64 0) rfl
  have q7 := Blk.c R2 7 (v := .int .i64 0) rfl
  have q8 := Blk.c R2 8 (v := .int .i64 0) rfl
  have q9 := Blk.c R2 9 (v := .int .i64 0) rfl
  have q10 := Blk.c R2 10 (v := .int .i64 0) rfl
  have q11 := Blk.c R2 11 (v := .int .i64 0) rfl
  have q12 := Blk.c R2 12 (v := .int .i64 0) rfl
  have q13 := Blk.c R2 13 (v := .int .i64 0) rfl
  have f0 := Blk.f R2 0
  have f1 := Blk.f R2 1
  have f2 := Blk.f R2 2
  have f3 := Blk.f R2 3
  have f4 := Blk.f R2 4
  have f5 := Blk.f R2 5
  have f6 := Blk.f R2 6
  have f7 := Blk.f R2 7
  have f8 := Blk.f R2 8
  have f9 := Blk.f R2 9
  have f10 := Blk.f R2 10
  have f11 := Blk.f R2 11
  have f12 := Blk.f R2 12
  have f13 := Blk.f R2 13
  have hz : w.heap.size + 1 < w2.heap.size := R2.lt
  have hz0 : w.heap.size < w2.heap.size := P2.lt
  have hrl := R.lt
  have J3 := Row.mono (C := w.heap.size + 2) I3 (by first | omega | (simp; omega))
  clear hrl
  go_upto_region 11 with fail
  obtain ⟨w3, hw3⟩ : ∃ w3 : World, w3 = ((((((((((((((w2.setCell ⟨w.heap.size, 0, none⟩ (.slice a1 n1 c1)).setCell ⟨w.heap.size, 1, none⟩ (.slice a2 n2 c2)).setCell ⟨w.heap.size, 2, none⟩ (.int .i64 T.taken)).setCell ⟨w.heap.size, 3, none⟩ (.slice b3 T.printed.length d3)).setCell ⟨w.heap.size, 4, none⟩ (.int .i64 T.clock)).setCell ⟨w.heap.size, 5, none⟩ (.int .i64 T.at_)).setCell ⟨w.heap.size, 6, none⟩ (.int .i64 T.phase)).setCell ⟨w.heap.size, 7, none⟩ (.int .i64 T.order)).setCell ⟨w.heap.size, 8, none⟩ (.int .i64 T.operand)).setCell ⟨w.heap.size, 9, none⟩ (.int .i64 T.other)).setCell ⟨w.heap.size, 10, none⟩ (.int .i64 T.product)).setCell ⟨w.heap.size, 11, none⟩ (.int .i64 T.count)).setCell ⟨w.heap.size, 12, none⟩ (.int .i64 T.done)).setCell ⟨w.heap.size, 13, none⟩ (.int .i64 T.why)) := ⟨_, rfl⟩
  have F3 : Ext w w3 := by rw [hw3]; exact (by repeat (first | with_reducible exact Ext.refl _ | with_reducible exact F2 | with_reducible exact F2.old | with_reducible exact F2.old.old | with_reducible exact F2.old.old.old | (with_reducible refine Ext.alloc ?_ _) | (with_reducible refine Below.drew ?_) | (with_reducible refine below_drewN ?_ _) | (with_reducible refine ext_put ?_ _ ?_; rotate_left; (first | with_reducible exact Nat.le_refl _ | with_reducible exact Nat.le_succ _ | omega | (dsimp only; omega)))))
  have P3 : Blk w3 w.heap.size #[.slice a1 n1 c1, .slice a2 n2 c2, .int .i64 T.taken, .slice b3 T.printed.length d3, .int .i64 T.clock, .int .i64 T.at_, .int .i64 T.phase, .int .i64 T.order, .int .i64 T.operand, .int .i64 T.other, .int .i64 T.product, .int .i64 T.count, .int .i64 T.done, .int .i64 T.why] 41 := by rw [hw3]; exact P2.st14 _ _ _ _ _ _ _ _ _ _ _ _ _ _
  have R3 := R2.nm14 hw3 (by omega)
  have hzw3 : w3.heap.size = w2.heap.size := by rw [hw3]; simp only [World.size_setCell]
  have J4 := J3.nm14 hw3 (by omega)
  rw [← hw3]
  clear hw3
  clear u0 u1 u2 u3 u4 u5 u6 u7 u8 u9 u10 u11 u12 u13 g0 g1 g2 g3 g4 g5 g6 g7 g8 g9 g10 g11 g12 g13 q0 q1 q2 q3 q4 q5 q6 q7 q8 q9 q10 q11 q12 q13 f0 f1 f2 f3 f4 f5 f6 f7 f8 f9 f10 f11 f12 f13 hz hz0 hzw3
  have u0 := Blk.c P3 0 (v := .slice a1 n1 c1) rfl
  have u1 := Blk.c P3 1 (v := .slice a2 n2 c2) rfl
  have u2 := Blk.c P3 2 (v := .int .i64 T.taken) rfl
  have u3 := Blk.c P3 3 (v := .slice b3 T.printed.length d3) rfl
  have u4 := Blk.c P3 4 (v := .int .i64 T.clock) rfl
  have u5 := Blk.c P3 5 (v := .int .i64 T.at_) rfl
  have u6 := Blk.c P3 6 (v := .int .i64 T.phase) rfl
  have u7 := Blk.c P3 7 (v := .int .i64 T.order) rfl
  have u8 := Blk.c P3 8 (v := .int .i64 T.operand) rfl
  have u9 := Blk.c P3 9 (v := .int .i64 T.other) rfl
  have u10 := Blk.c P3 10 (v := .int .i64 T.product) rfl
  have u11 := Blk.c P3 11 (v := .int .i64 T.count) rfl
  have u12 := Blk.c P3 12 (v := .int .i64 T.done) rfl
  have u13 := Blk.c P3 13 (v := .int .i64 T.why) rfl
  have g0 := Blk.f P3 0
  have g1 := Blk.f P3 1
  have g2 := Blk.f P3 2
  have g3 := Blk.f P3 3
  have g4 := Blk.f P3 4
  have g5 := Blk.f P3 5
  have g6 := Blk.f P3 6
  have g7 := Blk.f P3 7
  have g8 := Blk.f P3 8
  have g9 := Blk.f P3 9
  have g10 := Blk.f P3 10
  have g11 := Blk.f P3 11
  have g12 := Blk.f P3 12
  have g13 := Blk.f P3 13
  have q0 := Blk.c R3 0 (v := .slice none 0 0) rfl
  have q1 := Blk.c R3 1 (v := .slice none 0 0) rfl
  have q2 := Blk.c R3 2 (v := .int .i64 0) rfl
  have q3 := Blk.c R3 3 (v := .slice none 0 0) rfl
  have q4 := Blk.c R3 4 (v := .int .i64 0) rfl
  have q5 := Blk.c R3 5 (v := .int .i64 0) rfl
  have q6 := Blk.c R3 6 (v := .int .i64 0) rfl
  have q7 := Blk.c R3 7 (v := .int .i64 0) rfl
  have q8 := Blk.c R3 8 (v := .int .i64 0) rfl
  have q9 := Blk.c R3 9 (v := .int .i64 0) rfl
  have q10 := Blk.c R3 10 (v := .int .i64 0) rfl
  have q11 := Blk.c R3 11 (v := .int .i64 0) rfl
  have q12 := Blk.c R3 12 (v := .int .i64 0) rfl
  have q13 := Blk.c R3 13 (v := .int .i64 0) rfl
  have f0 := Blk.f R3 0
  have f1 := Blk.f R3 1
  have f2 := Blk.f R3 2
  have f3 := Blk.f R3 3
  have f4 := Blk.f R3 4
  have f5 := Blk.f R3 5
  have f6 := Blk.f R3 6
  have f7 := Blk.f R3 7
  have f8 := Blk.f R3 8
  have f9 := Blk.f R3 9
  have f10 := Blk.f R3 10
  have f11 := Blk.f R3 11
  have f12 := Blk.f R3 12
  have f13 := Blk.f R3 13
  have hz : w.heap.size + 1 < w3.heap.size := R3.lt
  have hz0 : w.heap.size < w3.heap.size := P3.lt
  go_wp2_with fail
  refine bodyPost_ret (v := psv a1 a2 b3 n1 c1 n2 c2 T.printed.length d3 { T with clock := s.clock + 1 }) (by simp [results, Try.results103, go_sem, hz, hz0, q0, q1, q2, q3, q4, q5, q6, q7, q8, q9, q10, q11, q12, q13]) rfl ⟨b3, d3, rfl, ?_, ?_⟩
  · refine Row.mono (B := w.heap.size + 2) ?_ (by omega)
    exact (by repeat (first | with_reducible exact J4 | with_reducible refine Row.drew ?_ | (with_reducible refine Row.put ?_ ?_ _; rotate_left; (first | omega | (dsimp only; omega)))))
  · exact (by repeat (first | with_reducible exact Ext.refl _ | with_reducible exact F3 | with_reducible exact F3.old | with_reducible exact F3.old.old | with_reducible exact F3.old.old.old | (with_reducible refine Ext.alloc ?_ _) | (with_reducible refine Below.drew ?_) | (with_reducible refine below_drewN ?_ _) | (with_reducible refine ext_put ?_ _ ?_; rotate_left; (first | with_reducible exact Nat.le_refl _ | with_reducible exact Nat.le_succ _ | omega | (dsimp only; omega)))))
set_option maxRecDepth 100000 in
set_option maxHeartbeats 16000000 in
theorem rbehind_wait (a1 a2 a3 : Option Addr) (n1 c1 c2 c3 : Nat) (s : Pu) (x : Int) (w : World) (hv : ValidP s) (hy : s.why = 0) (hc : s.clock ≠ 1000000000) (hx : 0 ≤ x ∧ x ≤ 16777215) (hI : IntsAt w a3 s.printed) (h3 : ¬ s.phase = 3) (hb : comesP s = false) :
    Calls Try.prog 103 #[psv a1 a2 a3 n1 c1 s.tape.length c2 s.printed.length c3 s, .int .i64 x] w (Beh a1 a2 a3 n1 c1 s.tape.length c2 s.printed w (endP (comesP s) x s)) := by
  have had := fun W => raddress_any a1 a2 a3 n1 c1 s.tape.length c2 s.printed.length c3 s W hv.order
  have hclk : (cameP s x).clock = s.clock := came_clock s x
  obtain ⟨cl0, cl1⟩ := hv.clock
  obtain ⟨dn0, dn1⟩ := hv.done
  obtain ⟨tk0, tk1⟩ := hv.taken
  have htl := hv.tlen
  have hpl := hv.plen
  have b3 : (s.phase != 3) = true := by simpa using h3
  rw [b3] at had
  obtain ⟨hcq, _, ad0, ad1⟩ := comes_adr hv h3
  have hcm := fun W => rcomes_any a1 a2 a3 n1 c1 s.tape.length c2 s.printed.length c3 s (adrP s) W ⟨cl0, cl1⟩ ⟨ad0, ad1⟩
  rw [← hcq, hb] at hcm
  have ee : endP false x s = { s with clock := s.clock + 1 } := by unfold endP; rw [if_neg (by simp [h3])]; exact tick_go hy
  rw [hb, ee]
  have bw : (s.why == 0) = true := by simpa using hy
  clear hv hI hx hclk ee b3 h3 hb hy hcq
  generalize hn2 : s.tape.length = n2 at *
  generalize hn3 : s.printed.length = n3 at *
  clear hn2
  have HN := Lib.hid hn3
  clear hn3
  go_enter Try.func103, Try.ntmps103
  go_wp2_with fail
  refine (had _).mono ?_
  rintro e w1 ⟨rfl, E1⟩
  have P := Blk.of E1.old
  have R := Blk.of E1
  rw [World.size_alloc] at R
  have u0 := Blk.c P 0 (v := .slice a1 n1 c1) rfl
  have u1 := Blk.c P 1 (v := .slice a2 n2 c2) rfl
  have u2 := Blk.c P 2 (v := .int .i64 s.taken) rfl
  have u3 := Blk.c P 3 (v := .slice a3 n3 c3) rfl
  have u4 := Blk.c P 4 (v := .int .i64 s.clock) rfl
  have u5 := Blk.c P 5 (v := .int .i64 s.at_) rfl
  have u6 := Blk.c P 6 (v := .int .i64 s.phase) rfl
  have u7 := Blk.c P 7 (v := .int .i64 s.order) rfl
  have u8 := Blk.c P 8 (v := .int .i64 s.operand) rfl
  have u9 := Blk.c P 9 (v := .int .i64 s.other) rfl
  have u10 := Blk.c P 10 (v := .int .i64 s.product) rfl
  have u11 := Blk.c P 11 (v := .int .i64 s.count) rfl
  have u12 := Blk.c P 12 (v := .int .i64 s.done) rfl
  have u13 := Blk.c P 13 (v := .int .i64 s.why) rfl
  have g0 := Blk.f P 0
  have g1 := Blk.f P 1
  have g2 := Blk.f P 2
  have g3 := Blk.f P 3
  have g4 := Blk.f P 4
  have g5 := Blk.f P 5
  have g6 := Blk.f P 6
  have g7 := Blk.f P 7
  have g8 := Blk.f P 8
  have g9 := Blk.f P 9
  have g10 := Blk.f P 10
  have g11 := Blk.f P 11
  have g12 := Blk.f P 12
  have g13 := Blk.f P 13
  have q0 := Blk.c R 0 (v := .slice none 0 0) rfl
  have q1 := Blk.c R 1 (v := .slice none 0 0) rfl
  have q2 := Blk.c R 2 (v := .int .i64 0) rfl
  have q3 := Blk.c R 3 (v := .slice none 0 0) rfl
  have q4 := Blk.c R 4 (v := .int .i64 0) rfl
  have q5 := Blk.c R 5 (v := .int .i64 0) rfl
  have q6 := Blk.c R 6 (v := .int .i64 0) rfl
  have q7 := Blk.c R 7 (v := .int .i64 0) rfl
  have q8 := Blk.c R 8 (v := .int .i64 0) rfl
  have q9 := Blk.c R 9 (v := .int .i64 0) rfl
  have q10 := Blk.c R 10 (v := .int .i64 0) rfl
  have q11 := Blk.c R 11 (v := .int .i64 0) rfl
  have q12 := Blk.c R 12 (v := .int .i64 0) rfl
  have q13 := Blk.c R 13 (v := .int .i64 0) rfl
  have f0 := Blk.f R 0
  have f1 := Blk.f R 1
  have f2 := Blk.f R 2
  have f3 := Blk.f R 3
  have f4 := Blk.f R 4
  have f5 := Blk.f R 5
  have f6 := Blk.f R 6
  have f7 := Blk.f R 7
  have f8 := Blk.f R 8
  have f9 := Blk.f R 9
  have f10 := Blk.f R 10
  have f11 := Blk.f R 11
  have f12 := Blk.f R 12
  have f13 := Blk.f R 13
  have hz : w.heap.size + 1 < w1.heap.size := R.lt
  have hz0 : w.heap.size < w1.heap.size := P.lt
  go_wp2_with fail
  refine (hcm _).mono ?_
  rintro e wq ⟨rfl, Eq⟩
  have Fq : Ext w wq := Ext.comp (by repeat (first | with_reducible exact Ext.refl _ | with_reducible exact E1 | with_reducible exact E1.old | with_reducible exact E1.old.old | with_reducible exact E1.old.old.old | (with_reducible refine Ext.alloc ?_ _) | (with_reducible refine Below.drew ?_) | (with_reducible refine below_drewN ?_ _) | (with_reducible refine ext_put ?_ _ ?_; rotate_left; (first | with_reducible exact Nat.le_refl _ | with_reducible exact Nat.le_succ _ | omega | (dsimp only; omega))))) Eq
  have Pq := Blk.go P (by intro hblk; repeat (first | with_reducible exact hblk | with_reducible refine Blk.al ?_ _ | with_reducible refine Blk.dr ?_ | (with_reducible refine Blk.ot ?_ ?_; rotate_left; (first | omega | (dsimp only; omega))))) Eq
  have Rq := Blk.go R (by intro hblk; repeat (first | with_reducible exact hblk | with_reducible refine Blk.al ?_ _ | with_reducible refine Blk.dr ?_ | (with_reducible refine Blk.ot ?_ ?_; rotate_left; (first | omega | (dsimp only; omega))))) Eq
  clear u0 u1 u2 u3 u4 u5 u6 u7 u8 u9 u10 u11 u12 u13 g0 g1 g2 g3 g4 g5 g6 g7 g8 g9 g10 g11 g12 g13 q0 q1 q2 q3 q4 q5 q6 q7 q8 q9 q10 q11 q12 q13 f0 f1 f2 f3 f4 f5 f6 f7 f8 f9 f10 f11 f12 f13 hz hz0
  have u0 := Blk.c Pq 0 (v := .slice a1 n1 c1) rfl
  have u1 := Blk.c Pq 1 (v := .slice a2 n2 c2) rfl
  have u2 := Blk.c Pq 2 (v := .int .i64 s.taken) rfl
  have u3 := Blk.c Pq 3 (v := .slice a3 n3 c3) rfl
  have u4 := Blk.c Pq 4 (v := .int .i64 s.clock) rfl
  have u5 := Blk.c Pq 5 (v := .int .i64 s.at_) rfl
  have u6 := Blk.c Pq 6 (v := .int .i64 s.phase) rfl
  have u7 := Blk.c Pq 7 (v := .int .i64 s.order) rfl
  have u8 := Blk.c Pq 8 (v := .int .i64 s.operand) rfl
  have u9 := Blk.c Pq 9 (v := .int .i64 s.other) rfl
  have u10 := Blk.c Pq 10 (v := .int .i64 s.product) rfl
  have u11 := Blk.c Pq 11 (v := .int .i64 s.count) rfl
  have u12 := Blk.c Pq 12 (v := .int .i64 s.done) rfl
  have u13 := Blk.c Pq 13 (v := .int .i64 s.why) rfl
  have g0 := Blk.f Pq 0
  have g1 := Blk.f Pq 1
  have g2 := Blk.f Pq 2
  have g3 := Blk.f Pq 3
  have g4 := Blk.f Pq 4
  have g5 := Blk.f Pq 5
  have g6 := Blk.f Pq 6
  have g7 := Blk.f Pq 7
  have g8 := Blk.f Pq 8
  have g9 := Blk.f Pq 9
  have g10 := Blk.f Pq 10
  have g11 := Blk.f Pq 11
  have g12 := Blk.f Pq 12
  have g13 := Blk.f Pq 13
  have q0 := Blk.c Rq 0 (v := .slice none 0 0) rfl
  have q1 := Blk.c Rq 1 (v := .slice none 0 0) rfl
  have q2 := Blk.c Rq 2 (v := .int .i64 0) rfl
  have q3 := Blk.c Rq 3 (v := .slice none 0 0) rfl
  have q4 := Blk.c Rq 4 (v := .int .i64 0) rfl
  have q5 := Blk.c Rq 5 (v := .int .i64 0) rfl
  have q6 := Blk.c Rq 6 (v := .int .i64 0) rfl
  have q7 := Blk.c Rq 7 (v := .int .i64 0) rfl
  have q8 := Blk.c Rq 8 (v := .int .i64 0) rfl
  have q9 := Blk.c Rq 9 (v := .int .i64 0) rfl
  have q10 := Blk.c Rq 10 (v := .int .i64 0) rfl
  have q11 := Blk.c Rq 11 (v := .int .i64 0) rfl
  have q12 := Blk.c Rq 12 (v := .int .i64 0) rfl
  have q13 := Blk.c Rq 13 (v := .int .i64 0) rfl
  have f0 := Blk.f Rq 0
  have f1 := Blk.f Rq 1
  have f2 := Blk.f Rq 2
  have f3 := Blk.f Rq 3
  have f4 := Blk.f Rq 4
  have f5 := Blk.f Rq 5
  have f6 := Blk.f Rq 6
  have f7 := Blk.f Rq 7
  have f8 := Blk.f Rq 8
  have f9 := Blk.f Rq 9
  have f10 := Blk.f Rq 10
  have f11 := Blk.f Rq 11
  have f12 := Blk.f Rq 12
  have f13 := Blk.f Rq 13
  have hz : w.heap.size + 1 < wq.heap.size := Rq.lt
  have hz0 : w.heap.size < wq.heap.size := Pq.lt
  go_wp2_with fail
  refine bodyPost_ret (v := psv a1 a2 a3 n1 c1 n2 c2 n3 c3 { s with clock := s.clock + 1 }) (by simp [results, Try.results103, go_sem, hz, hz0, q0, q1, q2, q3, q4, q5, q6, q7, q8, q9, q10, q11, q12, q13]) rfl (Beh.of (s := s) (c3 := c3) ⟨?_, ?_⟩ rfl)
  · rw [HN.out]
  · exact (by repeat (first | with_reducible exact Ext.refl _ | with_reducible exact Fq | with_reducible exact Fq.old | with_reducible exact Fq.old.old | with_reducible exact Fq.old.old.old | (with_reducible refine Ext.alloc ?_ _) | (with_reducible refine Below.drew ?_) | (with_reducible refine below_drewN ?_ _) | (with_reducible refine ext_put ?_ _ ?_; rotate_left; (first | with_reducible exact Nat.le_refl _ | with_reducible exact Nat.le_succ _ | omega | (dsimp only; omega)))))
end Go.Proofs.Ytjfggepgjpdebaa
/- Contract: the reference of layer 5: ends. -/
namespace Go.Proofs.Ytjfggepgjpdebaa
open Go.RowKit Go.Q
set_option maxRecDepth 100000 in
set_option maxHeartbeats 4000000 in
theorem rends_any (a1 a2 a3 : Option Addr) (n1 c1 c2 c3 : Nat) (s : Pu) (w : World) (ho : 0 ≤ s.order ∧ s.order ≤ 16777215) :
    Calls Try.prog 140 #[psv a1 a2 a3 n1 c1 s.tape.length c2 s.printed.length c3 s] w fun e w' => e = .returned (.int .i64 (whyP s (ordP s))) ∧ Ext w w' := by
  have hdd := fun W => rdec_ord ho W
  have ee : whyP s (ordP s) = whyP s (decodeQ s.order) := rfl
  rw [ee]
  clear ee
  generalize decodeQ s.order = o at *
  by_cases h0 : o.op = 0
  · skip
    have b0 : (o.op == 0) = true := by simpa using h0
    have e2 : whyP s o = 1 := by simp [whyP, h0]
    rw [e2]
    clear e2 h0
    go_enter Try.func140, Try.ntmps140
    go_wp2_with fail
    refine (hdd _).mono ?_
    rintro e w1 ⟨rfl, E1⟩
    have u0 := box_at (v := .slice a1 n1 c1) E1 0 rfl
    have u1 := box_at (v := .slice a2 s.tape.length c2) E1 1 rfl
    have u2 := box_at (v := .int .i64 s.taken) E1 2 rfl
    have u3 := box_at (v := .slice a3 s.printed.length c3) E1 3 rfl
    have u4 := box_at (v := .int .i64 s.clock) E1 4 rfl
    have u5 := box_at (v := .int .i64 s.at_) E1 5 rfl
    have u6 := box_at (v := .int .i64 s.phase) E1 6 rfl
    have u7 := box_at (v := .int .i64 s.order) E1 7 rfl
    have u8 := box_at (v := .int .i64 s.operand) E1 8 rfl
    have u9 := box_at (v := .int .i64 s.other) E1 9 rfl
    have u10 := box_at (v := .int .i64 s.product) E1 10 rfl
    have u11 := box_at (v := .int .i64 s.count) E1 11 rfl
    have u12 := box_at (v := .int .i64 s.done) E1 12 rfl
    have u13 := box_at (v := .int .i64 s.why) E1 13 rfl
    have hz0 : w.heap.size < w1.heap.size := by have := E1.size; simp at this; omega
    go_wp2_with fail
    go_ret
    exact ⟨rfl, (by repeat (first | with_reducible exact Ext.refl _ | with_reducible exact E1 | with_reducible exact E1.old | with_reducible exact E1.old.old | with_reducible exact E1.old.old.old | (with_reducible refine Ext.alloc ?_ _) | (with_reducible refine Below.drew ?_) | (with_reducible refine below_drewN ?_ _) | (with_reducible refine ext_put ?_ _ ?_; rotate_left; (first | with_reducible exact Nat.le_refl _ | with_reducible exact Nat.le_succ _ | omega | (dsimp only; omega)))))⟩
  · skip
    have b0 : (o.op == 0) = false := by simpa using h0
    by_cases h6 : o.op = 6
    · skip
      have b6 : (o.op == 6) = true := by simpa using h6
      have b7 : (o.op == 7) = false := by simp [h6]
      have h7 : ¬ o.op = 7 := by omega
      by_cases ht : s.taken = s.tape.length
      · skip
        have bt : (s.taken == (s.tape.length : Int)) = true := by simpa using ht
        have e2 : whyP s o = 2 := by simp [whyP, h0, h6, ht, h7]
        rw [e2]
        clear e2 h0 h6 ht h7
        go_enter Try.func140, Try.ntmps140
        go_wp2_with fail
        refine (hdd _).mono ?_
        rintro e w1 ⟨rfl, E1⟩
        have u0 := box_at (v := .slice a1 n1 c1) E1 0 rfl
        have u1 := box_at (v := .slice a2 s.tape.length c2) E1 1 rfl
        have u2 := box_at (v := .int .i64 s.taken) E1 2 rfl
        have u3 := box_at (v := .slice a3 s.printed.length c3) E1 3 rfl
        have u4 := box_at (v := .int .i64 s.clock) E1 4 rfl
        have u5 := box_at (v := .int .i64 s.at_) E1 5 rfl
        have u6 := box_at (v := .int .i64 s.phase) E1 6 rfl
        have u7 := box_at (v := .int .i64 s.order) E1 7 rfl
        have u8 := box_at (v := .int .i64 s.operand) E1 8 rfl
        have u9 := box_at (v := .int .i64 s.other) E1 9 rfl
        have u10 := box_at (v := .int .i64 s.product) E1 10 rfl
        have u11 := box_at (v := .int .i64 s.count) E1 11 rfl
        have u12 := box_at (v := .int .i64 s.done) E1 12 rfl
        have u13 := box_at (v := .int .i64 s.why) E1 13 rfl
        have hz0 : w.heap.size < w1.heap.size := by have := E1.size; simp at this; omega
        go_wp2_with fail
        go_ret
        exact ⟨rfl, (by repeat (first | with_reducible exact Ext.refl _ | with_reducible exact E1 | with_reducible exact E1.old | with_reducible exact E1.old.old | with_reducible exact E1.old.old.old | (with_reducible refine Ext.alloc ?_ _) | (with_reducible refine Below.drew ?_) | (with_reducible refine below_drewN ?_ _) | (with_reducible refine ext_put ?_ _ ?_; rotate_left; (first | with_reducible exact Nat.le_refl _ | with_reducible exact Nat.le_succ _ | omega | (dsimp only; omega)))))⟩
      · skip
        have bt : (s.taken == (s.tape.length : Int)) = false := by simpa using ht
        have e2 : whyP s o = 0 := by simp [whyP, h0, h6, ht, h7]
        rw [e2]
        clear e2 h0 h6 ht h7
        go_enter Try.func140, Try.ntmps140
        go_wp2_with fail
        refine (hdd _).mono ?_
        rintro e w1 ⟨rfl, E1⟩
        have u0 := box_at (v := .slice a1 n1 c1) E1 0 rfl
        have u1 := box_at (v := .slice a2 s.tape.length c2) E1 1 rfl
        have u2 := box_at (v := .int .i64 s.taken) E1 2 rfl
        have u3 := box_at (v := .slice a3 s.printed.length c3) E1 3 rfl
        have u4 := box_at (v := .int .i64 s.clock) E1 4 rfl
        have u5 := box_at (v := .int .i64 s.at_) E1 5 rfl
        have u6 := box_at (v := .int .i64 s.phase) E1 6 rfl
        have u7 := box_at (v := .int .i64 s.order) E1 7 rfl
        have u8 := box_at (v := .int .i64 s.operand) E1 8 rfl
        have u9 := box_at (v := .int .i64 s.other) E1 9 rfl
        have u10 := box_at (v := .int .i64 s.product) E1 10 rfl
        have u11 := box_at (v := .int .i64 s.count) E1 11 rfl
        have u12 := box_at (v := .int .i64 s.done) E1 12 rfl
        have u13 := box_at (v := .int .i64 s.why) E1 13 rfl
        have hz0 : w.heap.size < w1.heap.size := by have := E1.size; simp at this; omega
        go_wp2_with fail
        go_ret
        exact ⟨rfl, (by repeat (first | with_reducible exact Ext.refl _ | with_reducible exact E1 | with_reducible exact E1.old | with_reducible exact E1.old.old | with_reducible exact E1.old.old.old | (with_reducible refine Ext.alloc ?_ _) | (with_reducible refine Below.drew ?_) | (with_reducible refine below_drewN ?_ _) | (with_reducible refine ext_put ?_ _ ?_; rotate_left; (first | with_reducible exact Nat.le_refl _ | with_reducible exact Nat.le_succ _ | omega | (dsimp only; omega)))))⟩
    · skip
      have b6 : (o.op == 6) = false := by simpa using h6
      by_cases h7 : o.op = 7
      · skip
        have b7 : (o.op == 7) = true := by simpa using h7
        by_cases hp : s.printed.length = 200
        · skip
          have bp : ((s.printed.length : Int) == 200) = true := by simp [hp]
          have e2 : whyP s o = 3 := by simp [whyP, h0, h6, h7, hp]
          rw [e2]
          clear e2 h0 h6 h7 hp
          go_enter Try.func140, Try.ntmps140
          go_wp2_with fail
          refine (hdd _).mono ?_
          rintro e w1 ⟨rfl, E1⟩
          have u0 := box_at (v := .slice a1 n1 c1) E1 0 rfl
          have u1 := box_at (v := .slice a2 s.tape.length c2) E1 1 rfl
          have u2 := box_at (v := .int .i64 s.taken) E1 2 rfl
          have u3 := box_at (v := .slice a3 s.printed.length c3) E1 3 rfl
          have u4 := box_at (v := .int .i64 s.clock) E1 4 rfl
          have u5 := box_at (v := .int .i64 s.at_) E1 5 rfl
          have u6 := box_at (v := .int .i64 s.phase) E1 6 rfl
          have u7 := box_at (v := .int .i64 s.order) E1 7 rfl
          have u8 := box_at (v := .int .i64 s.operand) E1 8 rfl
          have u9 := box_at (v := .int .i64 s.other) E1 9 rfl
          have u10 := box_at (v := .int .i64 s.product) E1 10 rfl
          have u11 := box_at (v := .int .i64 s.count) E1 11 rfl
          have u12 := box_at (v := .int .i64 s.done) E1 12 rfl
          have u13 := box_at (v := .int .i64 s.why) E1 13 rfl
          have hz0 : w.heap.size < w1.heap.size := by have := E1.size; simp at this; omega
          go_wp2_with fail
          go_ret
          exact ⟨rfl, (by repeat (first | with_reducible exact Ext.refl _ | with_reducible exact E1 | with_reducible exact E1.old | with_reducible exact E1.old.old | with_reducible exact E1.old.old.old | (with_reducible refine Ext.alloc ?_ _) | (with_reducible refine Below.drew ?_) | (with_reducible refine below_drewN ?_ _) | (with_reducible refine ext_put ?_ _ ?_; rotate_left; (first | with_reducible exact Nat.le_refl _ | with_reducible exact Nat.le_succ _ | omega | (dsimp only; omega)))))⟩
        · skip
          have bp : ((s.printed.length : Int) == 200) = false := by simp; omega
          have e2 : whyP s o = 0 := by simp [whyP, h0, h6, h7, hp]
          rw [e2]
          clear e2 h0 h6 h7 hp
          go_enter Try.func140, Try.ntmps140
          go_wp2_with fail
          refine (hdd _).mono ?_
          rintro e w1 ⟨rfl, E1⟩
          have u0 := box_at (v := .slice a1 n1 c1) E1 0 rfl
          have u1 := box_at (v := .slice a2 s.tape.length c2) E1 1 rfl
          have u2 := box_at (v := .int .i64 s.taken) E1 2 rfl
          have u3 := box_at (v := .slice a3 s.printed.length c3) E1 3 rfl
          have u4 := box_at (v := .int .i64 s.clock) E1 4 rfl
          have u5 := box_at (v := .int .i64 s.at_) E1 5 rfl
          have u6 := box_at (v := .int .i64 s.phase) E1 6 rfl
          have u7 := box_at (v := .int .i64 s.order) E1 7 rfl
          have u8 := box_at (v := .int .i64 s.operand) E1 8 rfl
          have u9 := box_at (v := .int .i64 s.other) E1 9 rfl
          have u10 := box_at (v := .int .i64 s.product) E1 10 rfl
          have u11 := box_at (v := .int .i64 s.count) E1 11 rfl
          have u12 := box_at (v := .int .i64 s.done) E1 12 rfl
          have u13 := box_at (v := .int .i64 s.why) E1 13 rfl
          have hz0 : w.heap.size < w1.heap.size := by have := E1.size; simp at this; omega
          go_wp2_with fail
          go_ret
          exact ⟨rfl, (by repeat (first | with_reducible exact Ext.refl _ | with_reducible exact E1 | with_reducible exact E1.old | with_reducible exact E1.old.old | with_reducible exact E1.old.old.old | (with_reducible refine Ext.alloc ?_ _) | (with_reducible refine Below.drew ?_) | (with_reducible refine below_drewN ?_ _) | (with_reducible refine ext_put ?_ _ ?_; rotate_left; (first | with_reducible exact Nat.le_refl _ | with_reducible exact Nat.le_succ _ | omega | (dsimp only; omega)))))⟩
      · skip
        have b7 : (o.op == 7) = false := by simpa using h7
        have e2 : whyP s o = 0 := by simp [whyP, h0, h6, h7]
        rw [e2]
        clear e2 h0 h6 h7
        go_enter Try.func140, Try.ntmps140
        go_wp2_with fail
        refine (hdd _).mono ?_
        rintro e w1 ⟨rfl, E1⟩
        have u0 := box_at (v := .slice a1 n1 c1) E1 0 rfl
        have u1 := box_at (v := .slice a2 s.tape.length c2) E1 1 rfl
        have u2 := box_at (v := .int .i64 s.taken) E1 2 rfl
        have u3 := box_at (v := .slice a3 s.printed.length c3) E1 3 rfl
        have u4 := box_at (v := .int .i64 s.clock) E1 4 rfl
        have u5 := box_at (v := .int .i64 s.at_) E1 5 rfl
        have u6 := box_at (v := .int .i64 s.phase) E1 6 rfl
        have u7 := box_at (v := .int .i64 s.order) E1 7 rfl
        have u8 := box_at (v := .int .i64 s.operand) E1 8 rfl
        have u9 := box_at (v := .int .i64 s.other) E1 9 rfl
        have u10 := box_at (v := .int .i64 s.product) E1 10 rfl
        have u11 := box_at (v := .int .i64 s.count) E1 11 rfl
        have u12 := box_at (v := .int .i64 s.done) E1 12 rfl
        have u13 := box_at (v := .int .i64 s.why) E1 13 rfl
        have hz0 : w.heap.size < w1.heap.size := by have := E1.size; simp at this; omega
        go_wp2_with fail
        go_ret
        exact ⟨rfl, (by repeat (first | with_reducible exact Ext.refl _ | with_reducible exact E1 | with_reducible exact E1.old | with_reducible exact E1.old.old | with_reducible exact E1.old.old.old | (with_reducible refine Ext.alloc ?_ _) | (with_reducible refine Below.drew ?_) | (with_reducible refine below_drewN ?_ _) | (with_reducible refine ext_put ?_ _ ?_; rotate_left; (first | with_reducible exact Nat.le_refl _ | with_reducible exact Nat.le_succ _ | omega | (dsimp only; omega)))))⟩
end Go.Proofs.Ytjfggepgjpdebaa
